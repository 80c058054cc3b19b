/- Texts of a proof, joined. -/
import Derived.Test.YtaldglgobgjeaaaGreatProg
import Derived.KernelRfl
import Derived.Test.YtaldglgobgjeaaaGreatKM0
import Derived.Test.YtaldglgobgjeaaaGreatKM1
namespace Go.Proofs.YtaldglgobgjeaaaGreat.V
open Go Go.VM Go.Proofs
noncomputable def C:Ctx:={ P:=Tryz.prog,mode:=fun g=>if [23,25,26,33,47,54,56,57,67,71,81,84,92,95,104,134,135,136,137,138,139,141,142,149,158,160,161,168,172,174,175,176,186,187,189,194,197,205,206,207,208,209,210,211,212,218,219,220,221].contains g then 2 else if [6,7,8,9,10,11,12,18,19,22,24,29,30,31,34,36,37,38,43,46,49,50,53,60,61,62,65,72,76,77,79,80,86,88,89,98,99,107,109,112,113,114,115,116,118,119,121,123,124,125,130,145,157,159,163,164,165,166,169,184,185,188,217].contains g then 1 else 0,ext:=fun _=>none }
@[simp] theorem CP:C.P=Tryz.prog:=rfl
theorem drawn:DrawOk C:=Jp C (by kernel_rfl)
@[simp] theorem mode0:C.mode 0=0:=rfl
@[simp] theorem mode1:C.mode 1=0:=rfl
@[simp] theorem mode2:C.mode 2=0:=rfl
@[simp] theorem mode3:C.mode 3=0:=rfl
@[simp] theorem mode4:C.mode 4=0:=rfl
@[simp] theorem mode5:C.mode 5=0:=rfl
@[simp] theorem mode6:C.mode 6=1:=rfl
@[simp] theorem mode7:C.mode 7=1:=rfl
@[simp] theorem mode8:C.mode 8=1:=rfl
@[simp] theorem mode9:C.mode 9=1:=rfl
@[simp] theorem mode10:C.mode 10=1:=rfl
@[simp] theorem mode11:C.mode 11=1:=rfl
@[simp] theorem mode12:C.mode 12=1:=rfl
@[simp] theorem mode13:C.mode 13=0:=rfl
@[simp] theorem mode14:C.mode 14=0:=rfl
@[simp] theorem mode15:C.mode 15=0:=rfl
@[simp] theorem mode16:C.mode 16=0:=rfl
@[simp] theorem mode17:C.mode 17=0:=rfl
@[simp] theorem mode18:C.mode 18=1:=rfl
@[simp] theorem mode19:C.mode 19=1:=rfl
@[simp] theorem mode20:C.mode 20=0:=rfl
@[simp] theorem mode21:C.mode 21=0:=rfl
@[simp] theorem mode22:C.mode 22=1:=rfl
@[simp] theorem mode23:C.mode 23=2:=rfl
@[simp] theorem mode24:C.mode 24=1:=rfl
@[simp] theorem mode25:C.mode 25=2:=rfl
@[simp] theorem mode26:C.mode 26=2:=rfl
@[simp] theorem mode27:C.mode 27=0:=rfl
@[simp] theorem mode28:C.mode 28=0:=rfl
@[simp] theorem mode29:C.mode 29=1:=rfl
@[simp] theorem mode30:C.mode 30=1:=rfl
@[simp] theorem mode31:C.mode 31=1:=rfl
@[simp] theorem mode32:C.mode 32=0:=rfl
@[simp] theorem mode33:C.mode 33=2:=rfl
@[simp] theorem mode34:C.mode 34=1:=rfl
@[simp] theorem mode35:C.mode 35=0:=rfl
@[simp] theorem mode36:C.mode 36=1:=rfl
@[simp] theorem mode37:C.mode 37=1:=rfl
@[simp] theorem mode38:C.mode 38=1:=rfl
@[simp] theorem mode39:C.mode 39=0:=rfl
@[simp] theorem mode40:C.mode 40=0:=rfl
@[simp] theorem mode41:C.mode 41=0:=rfl
@[simp] theorem mode42:C.mode 42=0:=rfl
@[simp] theorem mode43:C.mode 43=1:=rfl
@[simp] theorem mode44:C.mode 44=0:=rfl
@[simp] theorem mode45:C.mode 45=0:=rfl
@[simp] theorem mode46:C.mode 46=1:=rfl
@[simp] theorem mode47:C.mode 47=2:=rfl
@[simp] theorem mode48:C.mode 48=0:=rfl
@[simp] theorem mode49:C.mode 49=1:=rfl
@[simp] theorem mode50:C.mode 50=1:=rfl
@[simp] theorem mode51:C.mode 51=0:=rfl
@[simp] theorem mode52:C.mode 52=0:=rfl
@[simp] theorem mode53:C.mode 53=1:=rfl
@[simp] theorem mode54:C.mode 54=2:=rfl
@[simp] theorem mode55:C.mode 55=0:=rfl
@[simp] theorem mode56:C.mode 56=2:=rfl
@[simp] theorem mode57:C.mode 57=2:=rfl
@[simp] theorem mode58:C.mode 58=0:=rfl
@[simp] theorem mode59:C.mode 59=0:=rfl
@[simp] theorem mode60:C.mode 60=1:=rfl
@[simp] theorem mode61:C.mode 61=1:=rfl
@[simp] theorem mode62:C.mode 62=1:=rfl
@[simp] theorem mode63:C.mode 63=0:=rfl
@[simp] theorem mode64:C.mode 64=0:=rfl
@[simp] theorem mode65:C.mode 65=1:=rfl
@[simp] theorem mode66:C.mode 66=0:=rfl
@[simp] theorem mode67:C.mode 67=2:=rfl
@[simp] theorem mode68:C.mode 68=0:=rfl
@[simp] theorem mode69:C.mode 69=0:=rfl
@[simp] theorem mode70:C.mode 70=0:=rfl
@[simp] theorem mode71:C.mode 71=2:=rfl
@[simp] theorem mode72:C.mode 72=1:=rfl
@[simp] theorem mode73:C.mode 73=0:=rfl
@[simp] theorem mode74:C.mode 74=0:=rfl
@[simp] theorem mode75:C.mode 75=0:=rfl
@[simp] theorem mode76:C.mode 76=1:=rfl
@[simp] theorem mode77:C.mode 77=1:=rfl
@[simp] theorem mode78:C.mode 78=0:=rfl
@[simp] theorem mode79:C.mode 79=1:=rfl
@[simp] theorem mode80:C.mode 80=1:=rfl
@[simp] theorem mode81:C.mode 81=2:=rfl
@[simp] theorem mode82:C.mode 82=0:=rfl
@[simp] theorem mode83:C.mode 83=0:=rfl
@[simp] theorem mode84:C.mode 84=2:=rfl
@[simp] theorem mode85:C.mode 85=0:=rfl
@[simp] theorem mode86:C.mode 86=1:=rfl
@[simp] theorem mode87:C.mode 87=0:=rfl
@[simp] theorem mode88:C.mode 88=1:=rfl
@[simp] theorem mode89:C.mode 89=1:=rfl
@[simp] theorem mode90:C.mode 90=0:=rfl
@[simp] theorem mode91:C.mode 91=0:=rfl
@[simp] theorem mode92:C.mode 92=2:=rfl
@[simp] theorem mode93:C.mode 93=0:=rfl
@[simp] theorem mode94:C.mode 94=0:=rfl
@[simp] theorem mode95:C.mode 95=2:=rfl
@[simp] theorem mode96:C.mode 96=0:=rfl
@[simp] theorem mode97:C.mode 97=0:=rfl
@[simp] theorem mode98:C.mode 98=1:=rfl
@[simp] theorem mode99:C.mode 99=1:=rfl
@[simp] theorem mode100:C.mode 100=0:=rfl
@[simp] theorem mode101:C.mode 101=0:=rfl
@[simp] theorem mode102:C.mode 102=0:=rfl
@[simp] theorem mode103:C.mode 103=0:=rfl
@[simp] theorem mode104:C.mode 104=2:=rfl
@[simp] theorem mode105:C.mode 105=0:=rfl
@[simp] theorem mode106:C.mode 106=0:=rfl
@[simp] theorem mode107:C.mode 107=1:=rfl
@[simp] theorem mode108:C.mode 108=0:=rfl
@[simp] theorem mode109:C.mode 109=1:=rfl
@[simp] theorem mode110:C.mode 110=0:=rfl
@[simp] theorem mode111:C.mode 111=0:=rfl
@[simp] theorem mode112:C.mode 112=1:=rfl
@[simp] theorem mode113:C.mode 113=1:=rfl
@[simp] theorem mode114:C.mode 114=1:=rfl
@[simp] theorem mode115:C.mode 115=1:=rfl
@[simp] theorem mode116:C.mode 116=1:=rfl
@[simp] theorem mode117:C.mode 117=0:=rfl
@[simp] theorem mode118:C.mode 118=1:=rfl
@[simp] theorem mode119:C.mode 119=1:=rfl
@[simp] theorem mode120:C.mode 120=0:=rfl
@[simp] theorem mode121:C.mode 121=1:=rfl
@[simp] theorem mode122:C.mode 122=0:=rfl
@[simp] theorem mode123:C.mode 123=1:=rfl
@[simp] theorem mode124:C.mode 124=1:=rfl
@[simp] theorem mode125:C.mode 125=1:=rfl
@[simp] theorem mode126:C.mode 126=0:=rfl
@[simp] theorem mode127:C.mode 127=0:=rfl
@[simp] theorem mode128:C.mode 128=0:=rfl
@[simp] theorem mode129:C.mode 129=0:=rfl
@[simp] theorem mode130:C.mode 130=1:=rfl
@[simp] theorem mode131:C.mode 131=0:=rfl
@[simp] theorem mode132:C.mode 132=0:=rfl
@[simp] theorem mode133:C.mode 133=0:=rfl
@[simp] theorem mode134:C.mode 134=2:=rfl
@[simp] theorem mode135:C.mode 135=2:=rfl
@[simp] theorem mode136:C.mode 136=2:=rfl
@[simp] theorem mode137:C.mode 137=2:=rfl
@[simp] theorem mode138:C.mode 138=2:=rfl
@[simp] theorem mode139:C.mode 139=2:=rfl
@[simp] theorem mode140:C.mode 140=0:=rfl
@[simp] theorem mode141:C.mode 141=2:=rfl
@[simp] theorem mode142:C.mode 142=2:=rfl
@[simp] theorem mode143:C.mode 143=0:=rfl
@[simp] theorem mode144:C.mode 144=0:=rfl
@[simp] theorem mode145:C.mode 145=1:=rfl
@[simp] theorem mode146:C.mode 146=0:=rfl
@[simp] theorem mode147:C.mode 147=0:=rfl
@[simp] theorem mode148:C.mode 148=0:=rfl
@[simp] theorem mode149:C.mode 149=2:=rfl
@[simp] theorem mode150:C.mode 150=0:=rfl
@[simp] theorem mode151:C.mode 151=0:=rfl
@[simp] theorem mode152:C.mode 152=0:=rfl
@[simp] theorem mode153:C.mode 153=0:=rfl
@[simp] theorem mode154:C.mode 154=0:=rfl
@[simp] theorem mode155:C.mode 155=0:=rfl
@[simp] theorem mode156:C.mode 156=0:=rfl
@[simp] theorem mode157:C.mode 157=1:=rfl
@[simp] theorem mode158:C.mode 158=2:=rfl
@[simp] theorem mode159:C.mode 159=1:=rfl
@[simp] theorem mode160:C.mode 160=2:=rfl
@[simp] theorem mode161:C.mode 161=2:=rfl
@[simp] theorem mode162:C.mode 162=0:=rfl
@[simp] theorem mode163:C.mode 163=1:=rfl
@[simp] theorem mode164:C.mode 164=1:=rfl
@[simp] theorem mode165:C.mode 165=1:=rfl
@[simp] theorem mode166:C.mode 166=1:=rfl
@[simp] theorem mode167:C.mode 167=0:=rfl
@[simp] theorem mode168:C.mode 168=2:=rfl
@[simp] theorem mode169:C.mode 169=1:=rfl
@[simp] theorem mode170:C.mode 170=0:=rfl
@[simp] theorem mode171:C.mode 171=0:=rfl
@[simp] theorem mode172:C.mode 172=2:=rfl
@[simp] theorem mode173:C.mode 173=0:=rfl
@[simp] theorem mode174:C.mode 174=2:=rfl
@[simp] theorem mode175:C.mode 175=2:=rfl
@[simp] theorem mode176:C.mode 176=2:=rfl
@[simp] theorem mode177:C.mode 177=0:=rfl
@[simp] theorem mode178:C.mode 178=0:=rfl
@[simp] theorem mode179:C.mode 179=0:=rfl
@[simp] theorem mode180:C.mode 180=0:=rfl
@[simp] theorem mode181:C.mode 181=0:=rfl
@[simp] theorem mode182:C.mode 182=0:=rfl
@[simp] theorem mode183:C.mode 183=0:=rfl
@[simp] theorem mode184:C.mode 184=1:=rfl
@[simp] theorem mode185:C.mode 185=1:=rfl
@[simp] theorem mode186:C.mode 186=2:=rfl
@[simp] theorem mode187:C.mode 187=2:=rfl
@[simp] theorem mode188:C.mode 188=1:=rfl
@[simp] theorem mode189:C.mode 189=2:=rfl
@[simp] theorem mode190:C.mode 190=0:=rfl
@[simp] theorem mode191:C.mode 191=0:=rfl
@[simp] theorem mode192:C.mode 192=0:=rfl
@[simp] theorem mode193:C.mode 193=0:=rfl
@[simp] theorem mode194:C.mode 194=2:=rfl
@[simp] theorem mode195:C.mode 195=0:=rfl
@[simp] theorem mode196:C.mode 196=0:=rfl
@[simp] theorem mode197:C.mode 197=2:=rfl
@[simp] theorem mode198:C.mode 198=0:=rfl
@[simp] theorem mode199:C.mode 199=0:=rfl
@[simp] theorem mode200:C.mode 200=0:=rfl
@[simp] theorem mode201:C.mode 201=0:=rfl
@[simp] theorem mode202:C.mode 202=0:=rfl
@[simp] theorem mode203:C.mode 203=0:=rfl
@[simp] theorem mode204:C.mode 204=0:=rfl
@[simp] theorem mode205:C.mode 205=2:=rfl
@[simp] theorem mode206:C.mode 206=2:=rfl
@[simp] theorem mode207:C.mode 207=2:=rfl
@[simp] theorem mode208:C.mode 208=2:=rfl
@[simp] theorem mode209:C.mode 209=2:=rfl
@[simp] theorem mode210:C.mode 210=2:=rfl
@[simp] theorem mode211:C.mode 211=2:=rfl
@[simp] theorem mode212:C.mode 212=2:=rfl
@[simp] theorem mode213:C.mode 213=0:=rfl
@[simp] theorem mode214:C.mode 214=0:=rfl
@[simp] theorem mode215:C.mode 215=0:=rfl
@[simp] theorem mode216:C.mode 216=0:=rfl
@[simp] theorem mode217:C.mode 217=1:=rfl
@[simp] theorem mode218:C.mode 218=2:=rfl
@[simp] theorem mode219:C.mode 219=2:=rfl
@[simp] theorem mode220:C.mode 220=2:=rfl
@[simp] theorem mode221:C.mode 221=2:=rfl
@[simp] theorem mode222:C.mode 222=0:=rfl
@[simp] theorem mode223:C.mode 223=0:=rfl
@[simp] theorem mode224:C.mode 224=0:=rfl
@[simp] theorem mode225:C.mode 225=0:=rfl
@[simp] theorem mode226:C.mode 226=0:=rfl
@[simp] theorem mode227:C.mode 227=0:=rfl
@[simp] theorem mode228:C.mode 228=0:=rfl
@[simp] theorem mode229:C.mode 229=0:=rfl
@[simp] theorem mode230:C.mode 230=0:=rfl
@[simp] theorem mode231:C.mode 231=0:=rfl
@[simp] theorem mode232:C.mode 232=0:=rfl
@[simp] theorem mode233:C.mode 233=0:=rfl
@[simp] theorem mode234:C.mode 234=0:=rfl
@[simp] theorem mode235:C.mode 235=0:=rfl
@[simp] theorem mode236:C.mode 236=0:=rfl
@[simp] theorem mode237:C.mode 237=0:=rfl
@[simp] theorem tsz3:tsz Tryz.prog 3=some (false,1):=by kernel_rfl
@[simp] theorem tzero3:tzero Tryz.prog 3=some [.int .i64 0]:=by kernel_rfl
@[simp] theorem tsz4:tsz Tryz.prog 4=some (false,1):=by kernel_rfl
@[simp] theorem tsz5:tsz Tryz.prog 5=some (false,1):=by kernel_rfl
@[simp] theorem und9:Tryz.prog.underlying 9=some .string:=by kernel_rfl
@[simp] theorem tsz22:tsz Tryz.prog 22=some (false,1):=by kernel_rfl
@[simp] theorem eltp22:eltp Tryz.prog 22=some (5,1):=by kernel_rfl
@[simp] theorem isSl22:isSl Tryz.prog 22=true:=by kernel_rfl
@[simp] theorem tsz25:tsz Tryz.prog 25=some (true,2):=by kernel_rfl
@[simp] theorem tzero25:tzero Tryz.prog 25=some [.int .i64 0,.int .i64 0]:=by kernel_rfl
@[simp] theorem Qe1:finfo Tryz.prog 25 0=some (0,false,1):=by kernel_rfl
@[simp] theorem Qe3:finfo Tryz.prog 25 1=some (1,false,1):=by kernel_rfl
@[simp] theorem bplaces25:bplaces Tryz.prog 25=some [(0,1),(1,1)]:=by kernel_rfl
@[simp] theorem tsz26:tsz Tryz.prog 26=some (false,1):=by kernel_rfl
@[simp] theorem tzero26:tzero Tryz.prog 26=some [.slice none 0 0]:=by kernel_rfl
@[simp] theorem eltp26:eltp Tryz.prog 26=some (3,1):=by kernel_rfl
@[simp] theorem isSl26:isSl Tryz.prog 26=true:=by kernel_rfl
@[simp] theorem tsz28:tsz Tryz.prog 28=some (true,3):=by kernel_rfl
@[simp] theorem tzero28:tzero Tryz.prog 28=some [.int .i64 0,.int .i64 0,.slice none 0 0]:=by kernel_rfl
@[simp] theorem Qfr:finfo Tryz.prog 28 0=some (0,true,2):=by kernel_rfl
@[simp] theorem Qfo:finfo Tryz.prog 28 1=some (2,false,1):=by kernel_rfl
@[simp] theorem bplaces28:bplaces Tryz.prog 28=some [(0,2),(2,1)]:=by kernel_rfl
@[simp] theorem tsz30:tsz Tryz.prog 30=some (true,1):=by kernel_rfl
@[simp] theorem tzero30:tzero Tryz.prog 30=some [.slice none 0 0]:=by kernel_rfl
@[simp] theorem Qfy:finfo Tryz.prog 30 0=some (0,false,1):=by kernel_rfl
@[simp] theorem bplaces30:bplaces Tryz.prog 30=some [(0,1)]:=by kernel_rfl
@[simp] theorem tsz32:tsz Tryz.prog 32=some (true,2):=by kernel_rfl
@[simp] theorem tzero32:tzero Tryz.prog 32=some [.slice none 0 0,.slice none 0 0]:=by kernel_rfl
@[simp] theorem Qfc:finfo Tryz.prog 32 0=some (0,true,1):=by kernel_rfl
@[simp] theorem Qfv:finfo Tryz.prog 32 1=some (1,true,1):=by kernel_rfl
@[simp] theorem bplaces32:bplaces Tryz.prog 32=some [(0,1),(1,1)]:=by kernel_rfl
@[simp] theorem tsz33:tsz Tryz.prog 33=some (false,1):=by kernel_rfl
@[simp] theorem eltp33:eltp Tryz.prog 33=some (73,5):=by kernel_rfl
@[simp] theorem isSl33:isSl Tryz.prog 33=true:=by kernel_rfl
@[simp] theorem tsz36:tsz Tryz.prog 36=some (false,1):=by kernel_rfl
@[simp] theorem eltp36:eltp Tryz.prog 36=some (109,1):=by kernel_rfl
@[simp] theorem isSl36:isSl Tryz.prog 36=true:=by kernel_rfl
@[simp] theorem tsz38:tsz Tryz.prog 38=some (true,11):=by kernel_rfl
@[simp] theorem tzero38:tzero Tryz.prog 38=some [.int .i64 0,.int .i64 0,.slice none 0 0,.slice none 0 0,.slice none 0 0,.slice none 0 0,.slice none 0 0,.slice none 0 0,.slice none 0 0,.slice none 0 0,.int .i64 0]:=by kernel_rfl
@[simp] theorem Qem:finfo Tryz.prog 38 0=some (0,true,3):=by kernel_rfl
@[simp] theorem Qe5:finfo Tryz.prog 38 1=some (3,true,2):=by kernel_rfl
@[simp] theorem Qfu:finfo Tryz.prog 38 2=some (5,false,1):=by kernel_rfl
@[simp] theorem Qez:finfo Tryz.prog 38 3=some (6,false,1):=by kernel_rfl
@[simp] theorem Qen:finfo Tryz.prog 38 4=some (7,false,1):=by kernel_rfl
@[simp] theorem Qfb:finfo Tryz.prog 38 5=some (8,false,1):=by kernel_rfl
@[simp] theorem Qep:finfo Tryz.prog 38 6=some (9,false,1):=by kernel_rfl
@[simp] theorem Qey:finfo Tryz.prog 38 7=some (10,false,1):=by kernel_rfl
@[simp] theorem bplaces38:bplaces Tryz.prog 38=some [(0,3),(3,2),(5,1),(6,1),(7,1),(8,1),(9,1),(10,1)]:=by kernel_rfl
@[simp] theorem tsz51:tsz Tryz.prog 51=some (true,12):=by kernel_rfl
@[simp] theorem tzero51:tzero Tryz.prog 51=some [.int .i64 0,.int .i64 0,.slice none 0 0,.slice none 0 0,.slice none 0 0,.slice none 0 0,.slice none 0 0,.slice none 0 0,.slice none 0 0,.slice none 0 0,.int .i64 0,.slice none 0 0]:=by kernel_rfl
@[simp] theorem Qfz:finfo Tryz.prog 51 0=some (0,true,11):=by kernel_rfl
@[simp] theorem Qfs:finfo Tryz.prog 51 1=some (11,false,1):=by kernel_rfl
@[simp] theorem bplaces51:bplaces Tryz.prog 51=some [(0,11),(11,1)]:=by kernel_rfl
@[simp] theorem eltp52:eltp Tryz.prog 52=some (56,5):=by kernel_rfl
@[simp] theorem isSl52:isSl Tryz.prog 52=true:=by kernel_rfl
@[simp] theorem tsz56:tsz Tryz.prog 56=some (true,5):=by kernel_rfl
@[simp] theorem tzero56:tzero Tryz.prog 56=some [.int .i64 0,.int .i64 0,.int .i64 0,.int .i64 0,.int .i64 0]:=by kernel_rfl
@[simp] theorem Qej:finfo Tryz.prog 56 0=some (0,false,1):=by kernel_rfl
@[simp] theorem Qfh:finfo Tryz.prog 56 1=some (1,false,1):=by kernel_rfl
@[simp] theorem Qeo:finfo Tryz.prog 56 2=some (2,false,1):=by kernel_rfl
@[simp] theorem Qeh:finfo Tryz.prog 56 3=some (3,false,1):=by kernel_rfl
@[simp] theorem Qeq:finfo Tryz.prog 56 4=some (4,false,1):=by kernel_rfl
@[simp] theorem flatN56:flatN Tryz.prog 56=some [0,0,0,0,0]:=by kernel_rfl
@[simp] theorem bplaces56:bplaces Tryz.prog 56=some [(0,1),(1,1),(2,1),(3,1),(4,1)]:=by kernel_rfl
@[simp] theorem tsz73:tsz Tryz.prog 73=some (true,5):=by kernel_rfl
@[simp] theorem tzero73:tzero Tryz.prog 73=some [.int .i64 0,.int .i64 0,.int .i64 0,.int .i64 0,.int .i64 0]:=by kernel_rfl
@[simp] theorem Qev:finfo Tryz.prog 73 0=some (0,false,1):=by kernel_rfl
@[simp] theorem Qe9:finfo Tryz.prog 73 1=some (1,false,1):=by kernel_rfl
@[simp] theorem Qe8:finfo Tryz.prog 73 2=some (2,false,1):=by kernel_rfl
@[simp] theorem Qeu:finfo Tryz.prog 73 3=some (3,false,1):=by kernel_rfl
@[simp] theorem Qek:finfo Tryz.prog 73 4=some (4,false,1):=by kernel_rfl
@[simp] theorem bplaces73:bplaces Tryz.prog 73=some [(0,1),(1,1),(2,1),(3,1),(4,1)]:=by kernel_rfl
@[simp] theorem tsz87:tsz Tryz.prog 87=some (true,3):=by kernel_rfl
@[simp] theorem tzero87:tzero Tryz.prog 87=some [.int .i64 0,.slice none 0 0,.slice none 0 0]:=by kernel_rfl
@[simp] theorem Qfp:finfo Tryz.prog 87 0=some (0,false,1):=by kernel_rfl
@[simp] theorem bplaces87:bplaces Tryz.prog 87=some [(0,1),(1,1),(2,1)]:=by kernel_rfl
@[simp] theorem tzero101:tzero Tryz.prog 101=some [.slice none 0 0,.int .i64 0,.int .i64 0]:=by kernel_rfl
@[simp] theorem Qdx:finfo Tryz.prog 101 0=some (0,false,1):=by kernel_rfl
@[simp] theorem Qdg:finfo Tryz.prog 101 1=some (1,false,1):=by kernel_rfl
@[simp] theorem Qdi:finfo Tryz.prog 101 2=some (2,false,1):=by kernel_rfl
@[simp] theorem bplaces101:bplaces Tryz.prog 101=some [(0,1),(1,1),(2,1)]:=by kernel_rfl
@[simp] theorem tsz109:tsz Tryz.prog 109=some (false,1):=by kernel_rfl
@[simp] theorem tzero109:tzero Tryz.prog 109=some [.slice none 0 0]:=by kernel_rfl
@[simp] theorem eltp109:eltp Tryz.prog 109=some (144,5):=by kernel_rfl
@[simp] theorem isSl109:isSl Tryz.prog 109=true:=by kernel_rfl
@[simp] theorem tsz125:tsz Tryz.prog 125=some (false,1):=by kernel_rfl
@[simp] theorem tzero125:tzero Tryz.prog 125=some [.slice none 0 0]:=by kernel_rfl
@[simp] theorem eltp125:eltp Tryz.prog 125=some (194,2):=by kernel_rfl
@[simp] theorem isSl125:isSl Tryz.prog 125=true:=by kernel_rfl
@[simp] theorem tsz144:tsz Tryz.prog 144=some (true,5):=by kernel_rfl
@[simp] theorem tzero144:tzero Tryz.prog 144=some [.int .i64 0,.int .i64 0,.int .i64 0,.bool false,.bool false]:=by kernel_rfl
@[simp] theorem Qdv:finfo Tryz.prog 144 0=some (0,false,1):=by kernel_rfl
@[simp] theorem Qc7:finfo Tryz.prog 144 1=some (1,false,1):=by kernel_rfl
@[simp] theorem Qd4:finfo Tryz.prog 144 2=some (2,false,1):=by kernel_rfl
@[simp] theorem Qdf:finfo Tryz.prog 144 3=some (3,false,1):=by kernel_rfl
@[simp] theorem Qdo:finfo Tryz.prog 144 4=some (4,false,1):=by kernel_rfl
@[simp] theorem flatN144:flatN Tryz.prog 144=some [0,0,0,1,1]:=by kernel_rfl
@[simp] theorem bplaces144:bplaces Tryz.prog 144=some [(0,1),(1,1),(2,1),(3,1),(4,1)]:=by kernel_rfl
@[simp] theorem eltp145:eltp Tryz.prog 145=some (149,3):=by kernel_rfl
@[simp] theorem isSl145:isSl Tryz.prog 145=true:=by kernel_rfl
@[simp] theorem tsz149:tsz Tryz.prog 149=some (true,3):=by kernel_rfl
@[simp] theorem tzero149:tzero Tryz.prog 149=some [.int .i64 0,.int .i64 0,.int .i64 0]:=by kernel_rfl
@[simp] theorem Qdc:finfo Tryz.prog 149 0=some (0,false,1):=by kernel_rfl
@[simp] theorem Qdb:finfo Tryz.prog 149 1=some (1,false,1):=by kernel_rfl
@[simp] theorem Qd6:finfo Tryz.prog 149 2=some (2,false,1):=by kernel_rfl
@[simp] theorem bplaces149:bplaces Tryz.prog 149=some [(0,1),(1,1),(2,1)]:=by kernel_rfl
@[simp] theorem tsz194:tsz Tryz.prog 194=some (true,2):=by kernel_rfl
@[simp] theorem tzero194:tzero Tryz.prog 194=some [.int .i64 0,.int .i64 0]:=by kernel_rfl
@[simp] theorem Qde:finfo Tryz.prog 194 0=some (0,false,1):=by kernel_rfl
@[simp] theorem Qc0:finfo Tryz.prog 194 1=some (1,false,1):=by kernel_rfl
@[simp] theorem flatN194:flatN Tryz.prog 194=some [0,0]:=by kernel_rfl
@[simp] theorem bplaces194:bplaces Tryz.prog 194=some [(0,1),(1,1)]:=by kernel_rfl
@[simp] theorem tsz200:tsz Tryz.prog 200=some (false,1):=by kernel_rfl
@[simp] theorem tsz204:tsz Tryz.prog 204=some (true,5):=by kernel_rfl
@[simp] theorem tzero204:tzero Tryz.prog 204=some [.bool false,.bool false,.bool false,.bool false,.bool false]:=by kernel_rfl
@[simp] theorem arrp204:arrp Tryz.prog 204=some (5,1):=by kernel_rfl
@[simp] theorem tsz208:tsz Tryz.prog 208=some (false,1):=by kernel_rfl
@[simp] theorem tzero208:tzero Tryz.prog 208=some [.int .u64 0]:=by kernel_rfl
@[simp] theorem eltp213:eltp Tryz.prog 213=some (26,1):=by kernel_rfl
@[simp] theorem isSl213:isSl Tryz.prog 213=true:=by kernel_rfl
@[simp] theorem eltp220:eltp Tryz.prog 220=some (125,1):=by kernel_rfl
@[simp] theorem isSl220:isSl Tryz.prog 220=true:=by kernel_rfl
end Go.Proofs.YtaldglgobgjeaaaGreat.V
set_option linter.all false
namespace Go.Proofs.YtaldglgobgjeaaaGreat.V
open Go Go.VM
def rd (b:List Int) (j:Int):Int:=b.getD j.toNat 0
def inR (lo n hi:Int):Prop:=lo≤n∧n≤hi
instance (lo n hi:Int):Decidable (inR lo n hi):=inferInstanceAs (Decidable (_∧_))
def okG (w h:Int):Prop:=(1≤w∧w≤4)∧1≤h∧h≤4
instance (w h:Int):Decidable (okG w h):=inferInstanceAs (Decidable (_∧_))
def cnt (w h:Int):Int:=if okG w h then w*h else 0
def isN (w h n:Int):Prop:=0≤n∧n<cnt w h
instance (w h n:Int):Decidable (isN w h n):=inferInstanceAs (Decidable (_∧_))
def nodeAt (w h x y:Int):Int:=if okG w h∧(0≤x∧x<w)∧0≤y∧y<h then y*w+x else -1
def next (w h n p:Int):Int:=
 if isN w h n then
  (if p=0 then nodeAt w h (n%w) (n/w-1) else if p=1 then nodeAt w h (n%w+1) (n/w) else if p=2 then nodeAt w h (n%w) (n/w+1)
   else if p=3 then nodeAt w h (n%w-1) (n/w) else if p=4 then n else -1)
 else -1
def leads (w h c:Int):Prop:=(0≤c∧c<4*cnt w h)∧0≤next w h (c/4) (c%4)
instance (w h c:Int):Decidable (leads w h c):=inferInstanceAs (Decidable (_∧_))
def opp (p:Int):Int:=if p=4 then 4 else if 0≤p∧p≤3 then (p+2)%4 else -1
def goodAt (w h:Int) (b:List Int) (j:Nat):Prop:=leads w h (b.getD j 0)∧(0<j→b.getD (j-1) 0<b.getD j 0)
instance (w h:Int) (b:List Int) (j:Nat):Decidable (goodAt w h b j):=inferInstanceAs (Decidable (_∧_))
def meshOk (w h:Int) (b:List Int):Prop:=(∀j,j<b.length→goodAt w h b j)∧okG w h
instance (w h:Int) (b:List Int):Decidable (meshOk w h b):=inferInstanceAs (Decidable (_∧_))
def has (w h:Int) (b:List Int) (c:Int):Prop:=leads w h c∧c∉b
instance (w h:Int) (b:List Int) (c:Int):Decidable (has w h b c):=inferInstanceAs (Decidable (_∧_))
theorem Xm {w h:Int} (h1:okG w h):1≤w*h∧w*h≤16:=by
 obtain ⟨⟨a1,a2⟩,b1,b2⟩:=h1
 have c1:1*1≤w*h:=Int.mul_le_mul a1 b1 (by omega) (by omega)
 have c2:w*h≤4*4:=Int.mul_le_mul a2 b2 (by omega) (by omega)
 omega
theorem Qf (w h:Int):0≤cnt w h∧cnt w h≤16:=by
 unfold cnt;split
 ·rename_i h1;have:=Xm h1;omega
 ·omega
theorem Yn {w h n:Int} (h1:isN w h n):okG w h∧0≤n∧n<w*h∧n<16:=by
 obtain ⟨a,b⟩:=h1
 have:=Qf w h
 unfold cnt at b;split at b
 ·rename_i hg;have:=Xm hg;exact ⟨hg,a,b,by omega⟩
 ·omega
theorem w64 {x:Int} (h1 : -9223372036854775808≤x) (h2:x≤9223372036854775807):IntKind.i64.wrap x=x:=by rw [IntKind.wrap_i64];omega
theorem w6 (x:Int) (h : -9223372036854775808≤x∧x≤9223372036854775807):∀[Inhabited Unit],IntKind.i64.wrap x=x:=by intro _;exact w64 h.1 h.2
end Go.Proofs.YtaldglgobgjeaaaGreat.V
set_option linter.all false
namespace Go.Proofs.YtaldglgobgjeaaaGreat.V
open Go Go.VM Go.Proofs
set_option maxRecDepth 10000
variable {frz:Nat} {H:Heap}
theorem Qj (n lo hi:Int):vcall C frz 64 [.int .i64 n,.int .i64 lo,.int .i64 hi] H=some (.bool (decide (inR lo n hi)),H):=by
 rw [Qb (fn:=Tryz.f64) Tryz.func64 rfl (by kernel_rfl) rfl]
 simp
 repeat' (first|refine We _ _ ?_ ?_|refine Qq _ ?_ ?_)<;>intro h<;>simp [h,inR]
theorem Zh (n lo hi:Int):vcall C frz 120 [.int .i64 n,.int .i64 lo,.int .i64 hi] H=some (.bool (decide (inR lo n hi)),H):=by
 rw [Qb (fn:=Tryz.f120) Tryz.func120 rfl (by kernel_rfl) rfl]
 simp
 repeat' (first|refine We _ _ ?_ ?_|refine Qq _ ?_ ?_)<;>intro h<;>simp [h,inR]
theorem T4 (w h:Int):vcall C frz 59 [.agg #[.int .i64 w,.int .i64 h]] H=some (.bool (decide (okG w h)),H):=by
 rw [Qb (fn:=Tryz.f59) Tryz.func59 rfl (by kernel_rfl) rfl]
 simp [Qj]
 refine We _ _ ?_ ?_<;>intro h1<;>simp [h1,Qj]
 ·have:okG w h↔inR 1 h 4:=⟨fun g=>g.2,fun g=>⟨h1,g⟩⟩
  simp [this]
 ·exact fun g=>h1 g.1
theorem Vn (w h:Int):vcall C frz 82 [.agg #[.int .i64 w,.int .i64 h]] H=some (.bool (decide (okG w h)),H):=by
 rw [Qb (fn:=Tryz.f82) Tryz.func82 rfl (by kernel_rfl) rfl]
 simp [Zh]
 refine We _ _ ?_ ?_<;>intro h1<;>simp [h1,Zh]
 ·have:okG w h↔inR 1 h 4:=⟨fun g=>g.2,fun g=>⟨h1,g⟩⟩
  simp [this]
 ·exact fun g=>h1 g.1
theorem Wb (w h:Int):vcall C frz 28 [.agg #[.int .i64 w,.int .i64 h]] H=some (.int .i64 (cnt w h),H):=by
 rw [Qb (fn:=Tryz.f28) Tryz.func28 rfl (by kernel_rfl) rfl]
 simp [T4]
 refine Qq _ ?_ ?_<;>intro h1<;>simp [h1,cnt]
 have:=Xm h1
 exact w64 (by omega) (by omega)
theorem Wd (w h:Int):vcall C frz 48 [.agg #[.int .i64 w,.int .i64 h]] H=some (.int .i64 (cnt w h),H):=by
 rw [Qb (fn:=Tryz.f48) Tryz.func48 rfl (by kernel_rfl) rfl]
 simp [Vn]
 refine Qq _ ?_ ?_<;>intro h1<;>simp [h1,cnt]
 have:=Xm h1
 exact w64 (by omega) (by omega)
theorem Kt (w h n:Int):inR 0 n (IntKind.i64.wrap (cnt w h-1))↔isN w h n:=by
 have:=Qf w h
 rw [w64 (by omega) (by omega)]
 simp only [inR,isN];omega
theorem W4 (w h n:Int):vcall C frz 85 [.agg #[.int .i64 w,.int .i64 h],.int .i64 n] H=some (.bool (decide (isN w h n)),H):=by
 rw [Qb (fn:=Tryz.f85) Tryz.func85 rfl (by kernel_rfl) rfl]
 simp [Wb,Qj,Kt]
theorem gh (w h n:Int):vcall C frz 215 [.agg #[.int .i64 w,.int .i64 h],.int .i64 n] H=some (.bool (decide (isN w h n)),H):=by
 rw [Qb (fn:=Tryz.f215) Tryz.func215 rfl (by kernel_rfl) rfl]
 simp [Wd,Zh,Kt]
theorem mh (w h x y:Int) (h1:okG w h):(inR 0 x (IntKind.i64.wrap (w-1))↔0≤x∧x<w)∧(inR 0 y (IntKind.i64.wrap (h-1))↔0≤y∧y<h):=by
 obtain ⟨⟨a1,a2⟩,b1,b2⟩:=h1
 rw [w64 (by omega) (by omega),w64 (by omega) (by omega)]
 simp only [inR];omega
theorem mz {w h x y:Int} (h1:okG w h) (h2:0≤x∧x<w) (h3:0≤y∧y<h):IntKind.i64.wrap (IntKind.i64.wrap (y*w)+x)=y*w+x:=by
 have hm:=Xm h1
 obtain ⟨⟨a1,a2⟩,b1,b2⟩:=h1
 have c1:0*0≤y*w:=Int.mul_le_mul h3.1 (by omega) (by omega) (by omega)
 have c2:y*w≤h*w:=Int.mul_le_mul_of_nonneg_right (by omega) (by omega)
 rw [Int.mul_comm h w] at c2
 rw [w64 (x:=y*w) (by omega) (by omega),w64 (by omega) (by omega)]
theorem Ut (w h x y:Int):vcall C frz 133 [.agg #[.int .i64 w,.int .i64 h],.int .i64 x,.int .i64 y] H=some (.int .i64 (nodeAt w h x y),H):=by
 rw [Qb (fn:=Tryz.f133) Tryz.func133 rfl (by kernel_rfl) rfl]
 simp [T4]
 refine We _ _ ?_ ?_<;>intro h1<;>simp [h1,Qj,nodeAt]
 obtain ⟨e1,e2⟩:=mh w h x y h1
 simp only [e1,e2]
 refine We _ _ ?_ ?_<;>intro h2<;>simp [h2,Qj]
 simp only [e2]
 refine Qq _ ?_ ?_<;>intro h3<;>simp [h3]
 exact mz h1 h2 h3
theorem Zq (w h x y:Int):vcall C frz 216 [.agg #[.int .i64 w,.int .i64 h],.int .i64 x,.int .i64 y] H=some (.int .i64 (nodeAt w h x y),H):=by
 rw [Qb (fn:=Tryz.f216) Tryz.func216 rfl (by kernel_rfl) rfl]
 simp [Vn]
 refine We _ _ ?_ ?_<;>intro h1<;>simp [h1,Zh,nodeAt]
 obtain ⟨e1,e2⟩:=mh w h x y h1
 simp only [e1,e2]
 refine We _ _ ?_ ?_<;>intro h2<;>simp [h2,Zh]
 simp only [e2]
 refine Qq _ ?_ ?_<;>intro h3<;>simp [h3]
 exact mz h1 h2 h3
theorem Yw (w h x y:Int) : -1≤nodeAt w h x y∧nodeAt w h x y<16:=by
 unfold nodeAt
 split
 ·rename_i h1
  obtain ⟨h1,h2,h3⟩:=h1
  have hm:=Xm h1
  obtain ⟨⟨a1,a2⟩,b1,b2⟩:=h1
  have c1:0*0≤y*w:=Int.mul_le_mul h3.1 (by omega) (by omega) (by omega)
  have c2:y*w≤(h-1)*w:=Int.mul_le_mul_of_nonneg_right (by omega) (by omega)
  rw [Int.sub_mul,Int.mul_comm h w] at c2
  omega
 ·omega
theorem Ba {n w:Int} (h:0≤n) (h1:1≤w) (h2:n<16):IntKind.i64.wrap (n.tdiv w)=n/w:=by
 rw [Int.tdiv_eq_ediv_of_nonneg h]
 have h3:=Int.ediv_le_self w h
 have h4:=Int.ediv_nonneg h (by omega:0≤w)
 exact w64 (by omega) (by omega)
theorem B4 {n w:Int} (h:0≤n):n.tmod w=n%w:=Int.tmod_eq_emod_of_nonneg h
theorem Mx {n w:Int} (h:0≤n) (h1:1≤w) (h2:n<16):0≤n/w∧n/w<16:=⟨Int.ediv_nonneg h (by omega),by have:=Int.ediv_le_self w h;omega⟩
theorem Mz {n w:Int} (h1:1≤w) (h2:w≤4):0≤n%w∧n%w<4:=⟨Int.emod_nonneg _ (by omega),by have:=Int.emod_lt_of_pos n (by omega:0<w);omega⟩
theorem Tw (w h n p:Int):vcall C frz 102 [.agg #[.int .i64 w,.int .i64 h],.int .i64 n,.int .i64 p] H=some (.int .i64 (next w h n p),H):=by
 rw [Qb (fn:=Tryz.f102) Tryz.func102 rfl (by kernel_rfl) rfl]
 simp [W4]
 refine Qq _ ?_ ?_<;>intro h1<;>simp [h1,next]
 obtain ⟨⟨⟨a1,a2⟩,b1,b2⟩,g2,g3,g4⟩:=Yn h1
 rw [Qe (h:=by kernel_rfl)]
 simp
 refine W3 (by omega) ?_
 refine W3 (by omega) ?_
 obtain ⟨d1,d2⟩:=Mx g2 a1 g4
 obtain ⟨m1,m2⟩:=Mz (n:=n) a1 a2
 rw [Ba g2 a1 g4,B4 g2]
 refine Qq _ ?_ ?_<;>intro p0<;>simp [p0,Ut]
 ·rw [w64 (by omega) (by omega)]
 refine Qq _ ?_ ?_<;>intro p1<;>simp [p1,Ut]
 ·rw [w64 (by omega) (by omega)]
 refine Qq _ ?_ ?_<;>intro p2<;>simp [p2,Ut]
 ·rw [w64 (by omega) (by omega)]
 refine Qq _ ?_ ?_<;>intro p3<;>simp [p3,Ut]
 ·rw [w64 (by omega) (by omega)]
 refine Qq _ ?_ ?_<;>intro p4<;>simp [p4,Ut]
theorem R2 (w h n p:Int):vcall C frz 200 [.agg #[.int .i64 w,.int .i64 h],.int .i64 n,.int .i64 p] H=some (.int .i64 (next w h n p),H):=by
 rw [Qb (fn:=Tryz.f200) Tryz.func200 rfl (by kernel_rfl) rfl]
 simp [gh]
 refine Qq _ ?_ ?_<;>intro h1<;>simp [h1,next]
 obtain ⟨⟨⟨a1,a2⟩,b1,b2⟩,g2,g3,g4⟩:=Yn h1
 refine W3 (by omega) ?_
 refine W3 (by omega) ?_
 obtain ⟨d1,d2⟩:=Mx g2 a1 g4
 obtain ⟨m1,m2⟩:=Mz (n:=n) a1 a2
 rw [Ba g2 a1 g4,B4 g2]
 refine Qq _ ?_ ?_<;>intro p0<;>simp [p0,Zq]
 ·rw [w64 (by omega) (by omega)]
 refine Qq _ ?_ ?_<;>intro p1<;>simp [p1,Zq]
 ·rw [w64 (by omega) (by omega)]
 refine Qq _ ?_ ?_<;>intro p2<;>simp [p2,Zq]
 ·rw [w64 (by omega) (by omega)]
 refine Qq _ ?_ ?_<;>intro p3<;>simp [p3,Zq]
 ·rw [w64 (by omega) (by omega)]
 refine Qq _ ?_ ?_<;>intro p4<;>simp [p4,Zq]
theorem Dz (w h n p:Int) : -1≤next w h n p∧next w h n p<16:=by
 unfold next
 split
 ·rename_i h1
  have:=Yn h1
  have a0:=Yw w h (n%w) (n/w-1)
  have a1:=Yw w h (n%w+1) (n/w)
  have a2:=Yw w h (n%w) (n/w+1)
  have a3:=Yw w h (n%w-1) (n/w)
  repeat' split
  all_goals omega
 ·omega
theorem Tz (w h c:Int):inR 0 c (IntKind.i64.wrap (IntKind.i64.wrap (4*cnt w h)-1))↔0≤c∧c<4*cnt w h:=by
 have:=Qf w h
 rw [w64 (x:=4*cnt w h) (by omega) (by omega),w64 (by omega) (by omega)]
 simp only [inR];omega
theorem Se {w h c:Int} (h1:0≤c∧c<4*cnt w h):IntKind.i64.wrap (c.tdiv 4)=c/4∧c.tmod 4=c%4:=by
 have:=Qf w h
 rw [Int.tdiv_eq_ediv_of_nonneg h1.1,Int.tmod_eq_emod_of_nonneg h1.1]
 exact ⟨w64 (by omega) (by omega),rfl⟩
theorem Jl (w h c:Int):vcall C frz 69 [.agg #[.int .i64 w,.int .i64 h],.int .i64 c] H=some (.bool (decide (leads w h c)),H):=by
 rw [Qb (fn:=Tryz.f69) Tryz.func69 rfl (by kernel_rfl) rfl]
 simp [Wb,Qj]
 refine We _ _ ?_ ?_<;>intro h1<;>simp [h1]
 ·rw [Tz] at h1
  obtain ⟨e1,e2⟩:=Se h1
  simp [e1,e2,Tw,leads,h1]
 ·rw [Tz] at h1
  exact fun g=>h1 g.1
theorem P5 (w h c:Int):vcall C frz 213 [.agg #[.int .i64 w,.int .i64 h],.int .i64 c] H=some (.bool (decide (leads w h c)),H):=by
 rw [Qb (fn:=Tryz.f213) Tryz.func213 rfl (by kernel_rfl) rfl]
 simp [Wd,Zh]
 refine We _ _ ?_ ?_<;>intro h1<;>simp [h1]
 ·rw [Tz] at h1
  obtain ⟨e1,e2⟩:=Se h1
  simp [e1,e2,R2,leads,h1]
 ·rw [Tz] at h1
  exact fun g=>h1 g.1
theorem Q5 (xs:List Int) (i:Nat) (h:i<xs.length):xs.getD i 0=xs[i]:=by simp [List.getD_eq_getElem?_getD,h]
theorem wr0:IntKind.i64.wrap 0=0:=by decide
theorem Qbb:vcall C frz 179 [.slice none 0 0,.int .i64 0] H=some (.slice none 0 0,H):=by
 rw [Qb (fn:=Tryz.f179) Tryz.func179 rfl (by kernel_rfl) rfl]
 simp [wr0]
theorem Qc1 (n:Int) (h0:0<n) (h1:n≤1073741824) :
 vcall C frz 179 [.slice none 0 0,.int .i64 n] H=some (.slice (some ⟨H.length,0,some 0⟩) 0 0,H++[⟨[],0,3⟩]):=by
 rw [Qb (fn:=Tryz.f179) Tryz.func179 rfl (by kernel_rfl) rfl]
 have e:IntKind.i64.wrap n=n:=w64 (by omega) (by omega)
 simp [wr0,e,h0]
 refine Qq _ ?_ ?_<;>intro h2
 ·omega
 simp [h2,wr0,e,h0]
 exact W3 h1 (W3 (by omega) rfl)
theorem ke (id:Nat) (x y:Value) (xs ys:List Int) (hr:H[id]? = some ⟨[x,y],0,26⟩) (hx:IsI H x xs) (hy:IsI H y ys) (hl:xs.length+ys.length≤1073741824) :
 vcall C frz 150 [.slice (some ⟨id,0,some 0⟩) 2 0] H=some (if xs++ys=[] then (.slice none 0 0,H) else (.slice (some ⟨H.length,0,some 0⟩) (xs++ys).length 0,H++[⟨(xs++ys).map (.int .i64),0,3⟩])):=by
 rw [Qb (fn:=Tryz.f150) Tryz.func150 rfl (by kernel_rfl) rfl]
 simp [VM.look,hr]
 have lk0:∀o,VM.look H ⟨id,o,some 0⟩=some ⟨[x,y],0,26⟩:=fun o=>by simp [VM.look,hr]
 have lk:∀L o,VM.look (H++L) ⟨id,o,some 0⟩=some ⟨[x,y],0,26⟩:=fun L o=>by
  simp [VM.look,List.getElem?_append_left (List.getElem?_eq_some_iff.1 hr).1,hr]
 have e1:IntKind.i64.wrap (xs.length:Int)=xs.length:=w64 (by omega) (by omega)
 have e2:IntKind.i64.wrap ((xs.length:Int)+ys.length)=xs.length+ys.length:=w64 (by omega) (by omega)
 have n1:¬(xs.length:Int)<0:=by omega
 have n2:¬(xs.length:Int)+ys.length<0:=by omega
 have wr1:IntKind.i64.wrap 1=1:=by decide
 have wr2:IntKind.i64.wrap 2=2:=by decide
 rw [Wr]
 simp [VM.look,hr,hx.len,hy.len,wr0,wr1,wr2,e1,n1]
 rw [Wy,Wr]
 simp [VM.look,hr,hx.len,hy.len,wr0,wr1,wr2,e1,e2,n1,n2]
 rw [Wy,Wr]
 simp [VM.look,hr,hx.len,hy.len,wr0,wr1,wr2,e1,e2,n1,n2]
 by_cases h0:xs.length+ys.length=0
 ·obtain rfl:xs=[]:=List.length_eq_zero_iff.1 (by omega)
  obtain rfl:ys=[]:=List.length_eq_zero_iff.1 (by omega)
  simp [Qbb,lk0]
  rw [Wr]
  simp [lk0,hx.src,wr0,wr1]
  rw [Wy,Wr]
  simp [lk0,hy.src,wr0,wr1,wr2]
  rw [Wy,Wr]
  simp [lk0,wr0,wr1,wr2]
 ·have hno:¬(xs=[]∧ys=[]):=fun ⟨a,b⟩=>h0 (by rw [a,b];rfl)
  simp [Qc1 _ (show (0:Int)<xs.length+ys.length by omega) (by omega),hno,lk]
  rw [Wr]
  simp [lk,(hx.app _).src,wr0,wr1]
  by_cases hx0:xs=[]
  ·have hy0:ys≠[]:=fun hh=>hno ⟨hx0,hh⟩
   have hyl:ys.length≤1073741824:=by omega
   simp [hx0]
   rw [Wy,Wr]
   simp [lk,(hy.app _).src,wr0,wr1,wr2,hy0,hyl]
   rw [Wy,Wr]
   simp [lk,wr0,wr1,wr2]
  ·have hxl:xs.length≤1073741824:=by omega
   simp [hx0,hxl]
   rw [Wy,Wr]
   simp [lk,(hy.app _).src,wr0,wr1,wr2]
   by_cases hy0:ys=[]
   ·simp [hy0]
    rw [Wy,Wr]
    simp [lk,wr0,wr1,wr2]
   ·simp [hy0,hl]
    rw [Wy,Wr]
    simp [lk,wr0,wr1,wr2]
theorem Uh {w h:Int} {b:List Int} {i:Nat} (h5:i<b.length) (hg:¬goodAt w h b i):¬meshOk w h b:=fun hh=>hg (hh.1 i h5)
theorem R4 {w h:Int} {b:List Int} {i:Nat} (hj:∀j<i,goodAt w h b j) (hg:goodAt w h b i):∀j<i+1,goodAt w h b j:=fun j hh=>by
 by_cases hji:j<i
 ·exact hj j hji
 ·have:j=i:=by omega
  rw [this];exact hg
theorem Xg {w h:Int} {b:List Int} {i:Nat} (h5:i<b.length):goodAt w h b i↔leads w h b[i]∧(0<i→b[i-1]<b[i]):=by
 unfold goodAt
 rw [Q5 _ _ h5]
 refine and_congr Iff.rfl ⟨fun g p=>?_,fun g p=>?_⟩
 ·have:=g p;rwa [Q5 _ _ (by omega)] at this
 ·rw [Q5 _ _ (by omega)];exact g p
theorem wx (w h:Int) (v:Value) (b:List Int) (hI:IsI H v b) (hl:b.length≤1073741824) :
 vcall C frz 198 [.agg #[.int .i64 w,.int .i64 h,v]] H=some (.bool (decide (meshOk w h b)),H):=by
 rw [Qb (fn:=Tryz.f198) Tryz.func198 rfl (by kernel_rfl) rfl]
 simp [hI.one',hI.cells,hI.lenA,Vn]
 refine Qq _ ?_ ?_<;>intro hg<;>simp [hg]
 ·refine Xy (fun n t H'=>∃i:Nat,n=b.length-i∧i≤b.length∧t 1=.pointer (some ⟨H.length,0,some 0⟩)∧t 3=.int .i64 i∧
   H'=H++[⟨[.int .i64 w,.int .i64 h,v],0,28⟩]∧∀j<i,goodAt w h b j) ?_ (n:=b.length) ⟨0,by simp⟩
  rintro n t H' ⟨i,rfl,hi,h1,h3,rfl,hj⟩ ih
  have next:=fun (t':Env) (e1:t' 1=.pointer (some ⟨H.length,0,some 0⟩)) (e2:t' 3=.int .i64 (i+1:Nat)) (e3:i<b.length) (e4:goodAt w h b i)=>
   ih (b.length-(i+1)) t' _ ⟨i+1,rfl,by omega,e1,e2,rfl,R4 hj e4⟩ (by omega)
  simp [h1,h3,hI.lenA]
  refine Qq _ ?_ ?_<;>intro h5
  ·simp [h1,h3,h5]
   rw [Qe (h:=by kernel_rfl)]
   simp [h1,h3,h5,hI.idxA,hI.loadA,Q5,P5]
   refine We _ _ ?_ ?_<;>intro hL<;>simp [h1,h3,h5,hL]
   ·refine We _ _ ?_ ?_<;>intro h0
    ·have e:IntKind.i64.wrap ((i:Int)-1)=((i-1:Nat):Int):=by rw [w64 (by omega) (by omega)];omega
     have e':i-1<b.length:=by omega
     simp [h1,h3,h5,h0,hL,hI.idxA,hI.loadA,Q5,e,e']
     refine Qq _ ?_ ?_<;>intro h6
     ·simp [h1,h3,h5,h0,hL,h6]
      refine Uh h5 ?_
      rw [Xg h5]
      exact fun hh=>absurd (hh.2 h0) (by omega)
     ·simp [h1,h3,h5,h0,hL,h6]
      refine next _ (by simp [h1]) ?_ h5 ((Xg h5).2 ⟨hL,fun _=>by omega⟩)
      simp;rw [w64 (by omega) (by omega)]
    ·simp [h1,h3,h5,h0,hL]
     refine next _ (by simp [h1]) ?_ h5 ((Xg h5).2 ⟨hL,fun hh=>absurd hh h0⟩)
     simp;rw [w64 (by omega) (by omega)]
   ·refine Uh h5 ?_
    rw [Xg h5]
    exact fun hh=>hL hh.1
  ·have:i=b.length:=by omega
   subst this
   simp [h1,h3]
   exact ⟨hj,hg⟩
 ·exact fun hh=>hg hh.2
theorem Oz {b:List Int} {c:Int} {i:Nat} (h:i<b.length) (h1:c∉b.take i) (h2:¬b[i]=c):c∉b.take (i+1):=by
 rw [List.take_succ_eq_append_getElem h]
 simp only [List.mem_append,List.mem_singleton,not_or]
 exact ⟨h1,fun hh=>h2 hh.symm⟩
def place (b:List Int) (c:Int):Int:=if c∈b then b.idxOf c else -1
theorem J8 (b:List Int) (c:Int) : -1≤place b c∧place b c<b.length∧(0≤place b c↔c∈b):=by
 unfold place
 split
 ·rename_i h
  have:=List.idxOf_lt_length_iff.2 h
  refine ⟨by omega,by omega,?_⟩
  simp [h]
 ·rename_i h
  refine ⟨by omega,by omega,?_⟩
  simp [h]
theorem jt {b:List Int} {c:Int} {i:Nat} (h:i<b.length) (h1:c∉b.take i) (h2:b[i]=c):place b c=i:=by
 have hm:c∈b:=h2▸List.getElem_mem h
 unfold place
 rw [if_pos hm]
 have e:b=b.take i++b.drop i:=(List.take_append_drop i b).symm
 have e2:b.drop i=c::b.drop (i+1):=by rw [List.drop_eq_getElem_cons h,h2]
 rw [e,List.idxOf_append,if_neg h1,e2,List.idxOf_cons_self]
 simp;omega
theorem Qd7 (v:Value) (b:List Int) (c:Int) (hI:IsI H v b) (hl:b.length≤1073741824) :
 vcall C frz 214 [v,.int .i64 c] H=some (.bool (decide (c∈b)),H):=by
 rw [Qb (fn:=Tryz.f214) Tryz.func214 rfl (by kernel_rfl) rfl]
 simp [hI.len]
 refine Xy (fun n t H'=>∃i:Nat,n=b.length-i∧i≤b.length∧t 0=v∧t 1=.int .i64 c∧t 5=.int .i64 i∧H'=H∧c∉b.take i) ?_ (n:=b.length) ⟨0,by simp⟩
 rintro n t H' ⟨i,rfl,hi,h1,h2,h3,rfl,hj⟩ ih
 simp [h1,h2,h3,hI.len]
 refine Qq _ ?_ ?_<;>intro h5
 ·simp [h1,h2,h3,h5,hI.idx,hI.load,Q5]
  refine Qq _ ?_ ?_<;>intro h6<;>simp [h1,h2,h3,h6]
  ·rw [← h6];exact List.getElem_mem h5
  ·refine ih (b.length-(i+1)) _ _ ⟨i+1,rfl,by omega,by simp [h1],by simp [h2],?_,rfl,Oz h5 hj h6⟩ (by omega)
   simp;rw [w64 (by omega) (by omega)]
 ·have:i=b.length:=by omega
  subst this
  simp [h1,h2,h3]
  rwa [List.take_length] at hj
theorem Ky (v:Value) (b:List Int) (c:Int) (hI:IsI H v b) (hl:b.length≤1073741824) :
 vcall C frz 103 [v,.int .i64 c] H=some (.int .i64 (place b c),H):=by
 rw [Qb (fn:=Tryz.f103) Tryz.func103 rfl (by kernel_rfl) rfl]
 simp [hI.len]
 refine Xy (fun n t H'=>∃i:Nat,n=b.length-i∧i≤b.length∧t 0=v∧t 1=.int .i64 c∧t 6=v∧t 7=.int .i64 b.length∧t 8=.int .i64 i∧H'=H∧c∉b.take i) ?_ (n:=b.length) ⟨0,by simp⟩
 rintro n t H' ⟨i,rfl,hi,h0,h1,h2,h3,h4,rfl,hj⟩ ih
 simp [h0,h1,h2,h3,h4,hI.len]
 refine Qq _ ?_ ?_<;>intro h5
 ·simp [h0,h1,h2,h3,h4,h5,hI.idx,hI.load,Q5]
  refine Qq _ ?_ ?_<;>intro h6<;>simp [h0,h1,h2,h3,h4,h6]
  ·rw [jt (c:=b[i]) h5 (by first|exact hj|(rw [h6];exact hj)|(rw [← h6];exact hj)) rfl]
  ·refine ih (b.length-(i+1)) _ _ ⟨i+1,rfl,by omega,by simp [h0],by simp [h1],by simp [h2],by simp [h3],?_,rfl,Oz h5 hj (by omega)⟩ (by omega)
   simp;rw [w64 (by omega) (by omega)]
 ·have:i=b.length:=by omega
  subst this
  simp [h0,h1,h2,h3]
  rw [List.take_length] at hj
  rw [place,if_neg hj]
theorem Y7 (v:Value) (b:List Int) (c:Int) (hI:IsI H v b) (hl:b.length≤1073741824) :
 vcall C frz 70 [v,.int .i64 c] H=some (.bool (decide (c∈b)),H):=by
 rw [Qb (fn:=Tryz.f70) Tryz.func70 rfl (by kernel_rfl) rfl]
 simp [Ky _ _ _ hI hl,J8]
theorem yl (w h:Int) (v:Value) (b:List Int) (c:Int) (hI:IsI H v b) (hl:b.length≤1073741824) :
 vcall C frz 199 [.agg #[.int .i64 w,.int .i64 h,v],.int .i64 c] H=some (.bool (decide (has w h b c)),H):=by
 rw [Qb (fn:=Tryz.f199) Tryz.func199 rfl (by kernel_rfl) rfl]
 simp [hI.one',hI.cells,P5]
 refine We _ _ ?_ ?_<;>intro h1<;>simp [h1,Qd7 _ _ _ (hI.app _) hl,has,-Bool.decide_and]
theorem Sn (w h:Int) (v:Value) (b:List Int) (c:Int) (hI:IsI H v b) (h0:leads w h c) :
 vcall C frz 129 [.agg #[.int .i64 w,.int .i64 h,v],.int .i64 c] H=some (.int .i64 (next w h (c/4) (c%4)),H):=by
 rw [Qb (fn:=Tryz.f129) Tryz.func129 rfl (by kernel_rfl) rfl]
 obtain ⟨e1,e2⟩:=Se h0.1
 simp [hI.one',hI.cells,e1,e2,Tw]
theorem Zz (w h:Int) (v:Value) (b:List Int) (hI:IsI H v b) (hl:b.length≤1073741824) :
 vcall C frz 68 [.agg #[.int .i64 w,.int .i64 h,v]] H=some (.bool (decide (meshOk w h b)),H):=by
 rw [Qb (fn:=Tryz.f68) Tryz.func68 rfl (by kernel_rfl) rfl]
 simp [hI.one',hI.cells,hI.lenA]
 refine Xy (fun n t H'=>∃i:Nat,n=b.length-i∧i≤b.length∧t 1=.pointer (some ⟨H.length,0,some 0⟩)∧t 6=v∧t 7=.int .i64 b.length∧t 8=.int .i64 i∧
  H'=H++[⟨[.int .i64 w,.int .i64 h,v],0,28⟩]∧∀j<i,goodAt w h b j) ?_ (n:=b.length) ⟨0,by simp⟩
 rintro n t H' ⟨i,rfl,hi,h1,h2,h3,h4,rfl,hj⟩ ih
 have next:=fun (t':Env) (e1:t' 1=.pointer (some ⟨H.length,0,some 0⟩)) (e2:t' 6=v) (e3:t' 7=.int .i64 b.length) (e4:t' 8=.int .i64 (i+1:Nat)) (e5:i<b.length) (e6:goodAt w h b i)=>
  ih (b.length-(i+1)) t' _ ⟨i+1,rfl,by omega,e1,e2,e3,e4,rfl,R4 hj e6⟩ (by omega)
 simp [h1,h2,h3,h4]
 refine Qq _ ?_ ?_<;>intro h5
 ·simp [h1,h2,h3,h4,h5,hI.idxA,hI.loadA,Q5,Jl]
  refine We _ _ ?_ ?_<;>intro hL<;>simp [h1,h2,h3,h4,h5,hL]
  ·refine We _ _ ?_ ?_<;>intro h0
   ·have e:IntKind.i64.wrap ((i:Int)-1)=((i-1:Nat):Int):=by rw [w64 (by omega) (by omega)];omega
    have e':i-1<b.length:=by omega
    simp [h1,h2,h3,h4,h5,h0,hL,hI.idxA,hI.loadA,Q5,e,e']
    refine Qq _ ?_ ?_<;>intro h6
    ·simp [h1,h2,h3,h4,h5,h0,hL,h6]
     refine Uh h5 ?_
     rw [Xg h5]
     exact fun hh=>absurd (hh.2 h0) (by omega)
    ·simp [h1,h2,h3,h4,h5,h0,hL,h6]
     refine next _ (by simp [h1]) (by simp [h2]) (by simp [h3]) ?_ h5 ((Xg h5).2 ⟨hL,fun _=>by omega⟩)
     simp;rw [w64 (by omega) (by omega)]
   ·simp [h1,h2,h3,h4,h5,h0,hL]
    refine next _ (by simp [h1]) (by simp [h2]) (by simp [h3]) ?_ h5 ((Xg h5).2 ⟨hL,fun hh=>absurd hh h0⟩)
    simp;rw [w64 (by omega) (by omega)]
  ·refine Uh h5 ?_
   rw [Xg h5]
   exact fun hh=>hL hh.1
 ·have:i=b.length:=by omega
  subst this
  simp [h1,h2,h3,h4,T4]
  exact ⟨fun hg=>⟨hj,hg⟩,fun hh=>hh.2⟩
theorem Gj (w h:Int) (v:Value) (b:List Int) (r:Int) (hI:IsI H v b) (hl:b.length≤1073741824) :
 vcall C frz 151 [.agg #[.int .i64 w,.int .i64 h,v],.int .i64 r] H=some (.bool (decide (meshOk w h b∧isN w h r)),H):=by
 rw [Qb (fn:=Tryz.f151) Tryz.func151 rfl (by kernel_rfl) rfl]
 simp [hI.one',hI.cells,Zz _ _ _ _ (hI.app _) hl]
 refine We _ _ ?_ ?_<;>intro h1<;>simp [h1,W4,-Bool.decide_and]
theorem Yv (w h:Int) (v:Value) (b:List Int) (c:Int) (hI:IsI H v b) (hl:b.length≤1073741824) :
 vcall C frz 35 [.agg #[.int .i64 w,.int .i64 h,v],.int .i64 c] H=some (.bool (decide (meshOk w h b∧has w h b c)),H):=by
 rw [Qb (fn:=Tryz.f35) Tryz.func35 rfl (by kernel_rfl) rfl]
 simp [hI.one',hI.cells,Zz _ _ _ _ (hI.app _) hl]
 refine We _ _ ?_ ?_<;>intro h1<;>simp [h1,Jl,-Bool.decide_and]
 refine We _ _ ?_ ?_<;>intro h2<;>simp [h2,has,Y7 _ _ _ (hI.app _) hl,-Bool.decide_and]
end Go.Proofs.YtaldglgobgjeaaaGreat.V
set_option linter.all false
namespace Go.Proofs.YtaldglgobgjeaaaGreat.V
open Go Go.VM Go.Proofs
set_option maxRecDepth 10000
def portOf (w h:Int) (T:List Int) (a to:Int):Int:=rd T (a*cnt w h+to)
def stepOk (w h:Int) (b T:List Int) (a to:Int):Prop:=inR 0 (portOf w h T a to) 3∧has w h b (4*a+portOf w h T a to)
instance (w h:Int) (b T:List Int) (a to:Int):Decidable (stepOk w h b T a to):=inferInstanceAs (Decidable (_∧_))
def walkN (w h:Int) (b T:List Int) (to:Int):Nat→Int→List Int→List Int
 | 0,a,out=>if portOf w h T a to=4 then (if a=to then out else []) else []
 | f+1,a,out=>if portOf w h T a to=4 then (if a=to then out else []) else
  if stepOk w h b T a to then walkN w h b T to f (next w h a (portOf w h T a to)) (out++[4*a+portOf w h T a to]) else []
def walk (w h:Int) (b T:List Int) (a to:Int):List Int:=walkN w h b T to (cnt w h).toNat a []
def tsized (w h:Int) (b T:List Int):Prop:=meshOk w h b∧(T.length:Int)=cnt w h*cnt w h
instance (w h:Int) (b T:List Int):Decidable (tsized w h b T):=inferInstanceAs (Decidable (_∧_))
def tableOk (w h:Int) (b T:List Int):Prop:=tsized w h b T∧∀a,a<(cnt w h).toNat→∀c,c<(cnt w h).toNat→(a=c→portOf w h T a a=4)∧(a≠c→walk w h b T a c≠[])
instance (w h:Int) (b T:List Int):Decidable (tableOk w h b T):=inferInstanceAs (Decidable (_∧_))
theorem Rk (w h:Int) (b T:List Int) (to:Int):∀f a out,(walkN w h b T to f a out).length≤out.length+f:=by
 intro f
 induction f with
 | zero=>
  intro a out;simp only [walkN];repeat' split
  all_goals simp
 | succ f ih=>
  intro a out;simp only [walkN];repeat' split
  ·omega
  ·simp
  ·have:=ih (next w h a (portOf w h T a to)) (out++[4*a+portOf w h T a to])
   simp at this;omega
  ·simp
theorem Uj {w h x y:Int} (hx:0≤nodeAt w h x y):isN w h (nodeAt w h x y):=by
 refine ⟨hx,?_⟩
 unfold nodeAt at hx ⊢
 split
 ·rename_i h1
  obtain ⟨h1,h2,h3⟩:=h1
  have hm:=Xm h1
  have c2:y*w≤(h-1)*w:=Int.mul_le_mul_of_nonneg_right (by omega) (by have:=h1.1.1;omega)
  rw [Int.sub_mul,Int.mul_comm h w] at c2
  rw [cnt,if_pos h1]
  omega
 ·rename_i h1;rw [if_neg h1] at hx;omega
theorem Fi {w h a p:Int} (hx:0≤next w h a p):isN w h (next w h a p):=by
 unfold next at hx ⊢
 by_cases h1:isN w h a
 ·rw [if_pos h1] at hx ⊢
  by_cases p0:p=0
  ·rw [if_pos p0] at hx ⊢;exact Uj hx
  rw [if_neg p0] at hx ⊢
  by_cases p1:p=1
  ·rw [if_pos p1] at hx ⊢;exact Uj hx
  rw [if_neg p1] at hx ⊢
  by_cases p2:p=2
  ·rw [if_pos p2] at hx ⊢;exact Uj hx
  rw [if_neg p2] at hx ⊢
  by_cases p3:p=3
  ·rw [if_pos p3] at hx ⊢;exact Uj hx
  rw [if_neg p3] at hx ⊢
  by_cases p4:p=4
  ·rw [if_pos p4] at hx ⊢;exact h1
  rw [if_neg p4] at hx;omega
 ·rw [if_neg h1] at hx;omega
theorem Xl {w h a p:Int} {b:List Int} (h0:inR 0 p 3) (h1:has w h b (4*a+p)):(4*a+p)/4=a∧(4*a+p)%4=p∧isN w h (next w h a p):=by
 obtain ⟨h2,h3⟩:=h0
 have e1:(4*a+p)/4=a:=by omega
 have e2:(4*a+p)%4=p:=by omega
 refine ⟨e1,e2,Fi ?_⟩
 have:=h1.1.2
 rwa [e1,e2] at this
theorem Sa {w h a to:Int} (h1:isN w h a) (h2:isN w h to):0≤a*cnt w h+to∧a*cnt w h+to<cnt w h*cnt w h∧a*cnt w h≤256∧0≤a*cnt w h:=by
 have hc:=Qf w h
 obtain ⟨a1,a2⟩:=h1
 obtain ⟨b1,b2⟩:=h2
 have c1:0*0≤a*cnt w h:=Int.mul_le_mul a1 hc.1 (by omega) (by omega)
 have c2:a*cnt w h≤(cnt w h-1)*cnt w h:=Int.mul_le_mul_of_nonneg_right (by omega) hc.1
 rw [Int.sub_mul] at c2
 have c3:cnt w h*cnt w h≤16*16:=Int.mul_le_mul hc.2 hc.2 hc.1 (by omega)
 omega
end Go.Proofs.YtaldglgobgjeaaaGreat.V
set_option linter.all false
namespace Go.Proofs.YtaldglgobgjeaaaGreat.V
open Go Go.VM
theorem Zi {s:List Int} {j:Nat} (h:j<s.length):rd s (j:Int)=s[j]:=by simp [rd,List.getD_eq_getElem?_getD,h]
theorem Vi {s:List Int} {k:Int} (h0:0≤k) (h1:k<s.length):rd s k∈s:=by
 obtain ⟨i,rfl⟩:=Int.eq_ofNat_of_zero_le h0
 rw [Zi (by omega)];exact List.getElem_mem _
theorem Tg (w h:Int) (b:List Int):meshOk w h b↔okG w h∧(∀c∈b,leads w h c)∧b.Pairwise (· < ·):=by
 have e:∀j,j<b.length→b.getD j 0=rd b (j:Int):=fun j _=>by simp [rd]
 constructor
 ·rintro ⟨h1,h2⟩
  refine ⟨h2,fun c hc=>?_,?_⟩
  ·obtain ⟨j,hj,rfl⟩:=List.getElem_of_mem hc
   have:=(h1 j hj).1
   rwa [Q5 _ _ hj] at this
  ·rw [List.pairwise_iff_getElem]
   intro i j hi hj hij
   induction j with
   | zero=>omega
   | succ j ih=>
    have:=(h1 (j+1) hj).2 (by omega)
    rw [Q5 _ _ hj,Nat.add_sub_cancel,Q5 _ _ (by omega)] at this
    by_cases h3:i=j
    ·subst h3;exact this
    ·exact Int.lt_trans (ih (by omega) (by omega)) this
 ·rintro ⟨h1,h2,h3⟩
  refine ⟨fun j hj=>⟨by rw [Q5 _ _ hj];exact h2 _ (List.getElem_mem hj),fun h0=>?_⟩,h1⟩
  rw [Q5 _ _ hj,Q5 _ _ (by omega)]
  exact List.pairwise_iff_getElem.1 h3 _ _ _ _ (by omega)
def endC (w h c:Int):Int:=next w h (c/4) (c%4)
def backC (w h c:Int):Int:=4*endC w h c+opp (c%4)
def link (w h:Int) (b:List Int) (c:Int):Prop:=has w h b c∧has w h b (backC w h c)
instance (w h:Int) (b:List Int) (c:Int):Decidable (link w h b c):=inferInstanceAs (Decidable (_∧_))
theorem Ey {n:Nat}:∀{b:List Int},b.Pairwise (· < ·)→(∀c∈b,0≤c∧c<(n:Int))→b.length≤n:=by
 intro b hb hc
 have key:∀(b:List Int) (lo:Int),b.Pairwise (· < ·)→(∀c∈b,lo≤c∧c<(n:Int))→0≤lo→(b.length:Int)≤max 0 (n-lo):=by
  intro b
  induction b with
  | nil=>intro lo _ _ _;simp;omega
  | cons a l ih=>
   intro lo hp hm h0
   have h1:=hm a (by simp)
   have h2:=ih (a+1) (List.pairwise_cons.1 hp).2 (fun c hc=>⟨by have:=(List.pairwise_cons.1 hp).1 c hc;omega,(hm c (by simp [hc])).2⟩) (by omega)
   simp;omega
 have:=key b 0 hb (fun c h=>⟨(hc c h).1,(hc c h).2⟩) (by omega)
 omega
def neg (s:List Int):Nat:=s.countP (· < 0)
theorem S7 {s:List Int} {k x v:Int} (h0:0≤k) (h1:k<s.length) (hx:0≤x):rd (s.set k.toNat v) x=if x=k then v else rd s x:=by
 obtain ⟨i,rfl⟩:=Int.eq_ofNat_of_zero_le h0
 obtain ⟨j,rfl⟩:=Int.eq_ofNat_of_zero_le hx
 simp only [Int.toNat_natCast]
 by_cases hj:j<s.length
 ·rw [Zi (by simpa using hj),Zi hj,List.getElem_set]
  by_cases e:i=j
  ·subst e;simp
  ·rw [if_neg e,if_neg (by omega)]
 ·rw [if_neg (by omega)]
  simp [rd,hj]
theorem xo {s:List Int} {x:Int} (h0:0≤x) (h:rd s x<0):x<s.length:=by
 obtain ⟨j,rfl⟩:=Int.eq_ofNat_of_zero_le h0
 by_cases hj:j<s.length
 ·omega
 ·simp [rd,hj] at h
theorem Ah {s:List Int} {k v:Int} (h0:0≤k) (h1:k<s.length) (h:rd s k<0) (hv:0≤v):neg (s.set k.toNat v)+1=neg s:=by
 obtain ⟨i,rfl⟩:=Int.eq_ofNat_of_zero_le h0
 have hi:i<s.length:=by omega
 rw [Zi hi] at h
 unfold neg
 rw [Int.toNat_natCast,List.countP_set hi]
 have:0<s.countP (· < 0):=List.countP_pos_iff.2 ⟨_,List.getElem_mem hi,by simpa using h⟩
 rw [if_pos (by simpa using h),if_neg (by simp;omega)]
 omega
def vst (w h:Int) (b:List Int) (a d:Int) (x:List Int×List Int) (p:Nat):List Int×List Int:=
 if link w h b (4*a+p)∧rd x.1 (next w h a p)<0 then (x.1.set (next w h a p).toNat d,x.2++[next w h a p]) else x
def vis (w h:Int) (b:List Int) (a d:Int) (x:List Int×List Int):List Int×List Int:=(List.range 4).foldl (vst w h b a d) x
theorem Wi {w h:Int} {b:List Int} {a:Int} {p:Nat} (hp:p<4) (h1:link w h b (4*a+p)):isN w h a∧isN w h (next w h a p)∧endC w h (4*a+p)=next w h a p:=by
 obtain ⟨⟨⟨h2,h3⟩,_⟩,_⟩:=h1
 have e1:(4*a+(p:Int))/4=a:=by omega
 have e2:(4*a+(p:Int))%4=p:=by omega
 unfold endC
 rw [e1,e2] at h3 ⊢
 exact ⟨⟨by omega,by omega⟩,Fi h3,rfl⟩
structure BExt (w h:Int) (d:Int) (x y:List Int×List Int):Prop where
 len:y.1.length=x.1.length
 old:∀v,0≤v→0≤rd x.1 v→rd y.1 v=rd x.1 v
 new:∀v∈y.2,v∈x.2∨(isN w h v∧rd y.1 v=d)
 sum:neg y.1+y.2.length=neg x.1+x.2.length
 pre:∀v∈x.2,v∈y.2
 low:(∀v∈x.1,-1≤v∧v≤d)→∀v∈y.1,-1≤v∧v≤d
theorem BExt.rfl' {w h d:Int} {x:List Int×List Int}:BExt w h d x x:=⟨rfl,fun _ _ _=>rfl,fun _ h=>.inl h,rfl,fun _ h=>h,fun h=>h⟩
theorem BExt.trans {w h d:Int} {x y z:List Int×List Int} (hd:0≤d) (a:BExt w h d x y) (b:BExt w h d y z):BExt w h d x z where
 len:=b.len.trans a.len
 old v h0 h1:=by
  have e:=a.old v h0 h1
  rw [b.old v h0 (by omega),e]
 new v hv:=by
  rcases b.new v hv with h1|h1
  ·rcases a.new v h1 with h2|⟨h2,h3⟩
   ·exact .inl h2
   ·exact .inr ⟨h2,by rw [b.old v h2.1 (by omega),h3]⟩
  ·exact .inr h1
 sum:=b.sum.trans a.sum
 pre v h:=b.pre v (a.pre v h)
 low h:=b.low (a.low h)
theorem Kv {w h:Int} {b:List Int} {a d:Int} {x:List Int×List Int} {p:Nat} (hp:p<4) (hd:0≤d):BExt w h d x (vst w h b a d x p):=by
 unfold vst
 by_cases hc:link w h b (4*a+p)∧rd x.1 (next w h a p)<0
 ·rw [if_pos hc]
  obtain ⟨h1,h2,h3⟩:=Wi hp hc.1
  have h4:=xo h2.1 hc.2
  have:=Ah h2.1 h4 hc.2 hd
  refine ⟨by simp,fun v h0 h5=>?_,fun v hv=>?_,by simp;omega,fun v hv=>by simp [hv],fun hl v hv=>?_⟩
  ·simp only
   rw [S7 h2.1 h4 h0,if_neg (by intro e;subst e;omega)]
  ·simp only [List.mem_append,List.mem_singleton] at hv
   rcases hv with hv|rfl
   ·exact .inl hv
   ·exact .inr ⟨h2,by simp only;rw [S7 h2.1 h4 h2.1,if_pos rfl]⟩
  ·rcases List.mem_or_eq_of_mem_set hv with h6|rfl
   ·exact hl v h6
   ·omega
 ·rw [if_neg hc];exact BExt.rfl'
theorem Kc {w h:Int} {b:List Int} {a d:Int} (hd:0≤d):∀(l:List Nat) (x:List Int×List Int),(∀p∈l,p<4)→BExt w h d x (l.foldl (vst w h b a d) x)
 | [],x,_=>BExt.rfl'
 | p::l,x,hp=>(Kv (hp p (by simp)) hd).trans hd (Kc hd l _ (fun q hq=>hp q (by simp [hq])))
theorem Pv {w h:Int} {b:List Int} {a d:Int} (hd:0≤d) (x:List Int×List Int):BExt w h d x (vis w h b a d x):=Kc hd _ _ (by simp)
theorem Qbx {w h:Int} {b:List Int} {a d:Int} (s q q':List Int) (p:Nat):vst w h b a d (s,q++q') p=((vst w h b a d (s,q') p).1,q++(vst w h b a d (s,q') p).2):=by
 unfold vst
 simp only
 split<;>simp
theorem Lc {w h:Int} {b:List Int} {a d:Int} (q:List Int):∀(l:List Nat) (s q':List Int),l.foldl (vst w h b a d) (s,q++q')=((l.foldl (vst w h b a d) (s,q')).1,q++(l.foldl (vst w h b a d) (s,q')).2)
 | [],s,q'=>rfl
 | p::l,s,q'=>by
  rw [List.foldl_cons,List.foldl_cons,Qbx]
  exact Lc q l _ _
theorem B5 {w h:Int} {b:List Int} {a d:Int} (q s q':List Int):vis w h b a d (s,q++q')=((vis w h b a d (s,q')).1,q++(vis w h b a d (s,q')).2):=Lc q _ _ _
inductive Run (w h:Int) (b:List Int):List Int→List Int→List Int→Int→List Int→Prop
 | done (s:List Int) (d:Int):Run w h b s [] [] d s
 | level {s:List Int} {x:Int} {nx:List Int} {d:Int} {r:List Int}:Run w h b s (x::nx) [] (d+1) r→Run w h b s [] (x::nx) d r
 | node {s:List Int} {a:Int} {rest nx:List Int} {d:Int} {r:List Int}:Run w h b (vis w h b a d (s,nx)).1 rest (vis w h b a d (s,nx)).2 d r→Run w h b s (a::rest) nx d r
structure Inv (w h:Int) (s rest nx:List Int) (d:Int):Prop where
 len:(s.length:Int)=cnt w h
 fr:∀v∈rest,isN w h v∧rd s v=d-1
 nw:∀v∈nx,isN w h v∧rd s v=d
 one:1≤d
 sum:d+neg s+nx.length≤cnt w h
 low:∀v∈s,-1≤v∧v≤d
theorem Inv.level {w h:Int} {s nx:List Int} {x d:Int} (i:Inv w h s [] (x::nx) d):Inv w h s (x::nx) [] (d+1):=
 ⟨i.len,fun v hv=>⟨(i.nw v hv).1,by have:=(i.nw v hv).2;omega⟩,by simp,by have:=i.one;omega,by have:=i.sum;simp at this ⊢;omega,fun v hv=>by have:=i.low v hv;omega⟩
theorem Inv.node {w h:Int} {b s rest nx:List Int} {a d:Int} (i:Inv w h s (a::rest) nx d):Inv w h (vis w h b a d (s,nx)).1 rest (vis w h b a d (s,nx)).2 d:=by
 have h1:=i.one
 have e:=Pv (w:=w) (h:=h) (b:=b) (a:=a) (d:=d) (by omega) (s,nx)
 refine ⟨by rw [e.len];exact i.len,fun v hv=>?_,fun v hv=>?_,h1,?_,e.low i.low⟩
 ·obtain ⟨h2,h3⟩:=i.fr v (by simp [hv])
  exact ⟨h2,by rw [e.old v h2.1 (by simp only;omega)];exact h3⟩
 ·rcases e.new v hv with h2|h2
  ·obtain ⟨h3,h4⟩:=i.nw v h2
   exact ⟨h3,by rw [e.old v h3.1 (by simp only;omega)];exact h4⟩
  ·exact h2
 ·have:=e.sum;have:=i.sum;simp only at *;omega
theorem Qc3 {w h:Int} {b:List Int}:∀(m:Nat) (s rest nx:List Int) (d:Int),3*neg s+2*nx.length+rest.length≤m→Inv w h s rest nx d→∃r,Run w h b s rest nx d r:=by
 intro m
 induction m with
 | zero=>
  intro s rest nx d hm i
  cases rest with
  | nil=>cases nx with
   | nil=>exact ⟨s,.done s d⟩
   | cons x nx=>simp at hm
  | cons a rest=>simp at hm
 | succ m ih=>
  intro s rest nx d hm i
  cases rest with
  | nil=>cases nx with
   | nil=>exact ⟨s,.done s d⟩
   | cons x nx=>
    obtain ⟨r,hr⟩:=ih s (x::nx) [] (d+1) (by simp at hm ⊢;omega) i.level
    exact ⟨r,.level hr⟩
  | cons a rest=>
   have e:=(Pv (w:=w) (h:=h) (b:=b) (a:=a) (d:=d) (by have:=i.one;omega) (s,nx)).sum
   have e2:=(Pv (w:=w) (h:=h) (b:=b) (a:=a) (d:=d) (by have:=i.one;omega) (s,nx))
   have h1:nx.length≤(vis w h b a d (s,nx)).2.length:=by
    have:=B5 (w:=w) (h:=h) (b:=b) (a:=a) (d:=d) nx s []
    rw [List.append_nil] at this;rw [this];simp
   simp only at e
   obtain ⟨r,hr⟩:=ih (vis w h b a d (s,nx)).1 rest (vis w h b a d (s,nx)).2 d (by simp at hm;omega) i.node
   exact ⟨r,.node hr⟩
def start (w h root:Int):List Int:=(List.replicate (cnt w h).toNat (-1)).set root.toNat 0
theorem Yb {w h root:Int} (hr:isN w h root):Inv w h (start w h root) [root] [] 1∧((neg (start w h root):Nat):Int)+1=cnt w h:=by
 have hc:=Qf w h
 have hl:root<((List.replicate (cnt w h).toNat (-1:Int)).length:Int):=by have:=hr.2;simp;omega
 have h0:rd (List.replicate (cnt w h).toNat (-1:Int)) root=-1:=by
  have:=Vi hr.1 hl
  exact List.eq_of_mem_replicate this
 have h1:=Ah (v:=0) hr.1 hl (by omega) (by omega)
 have h2:neg (List.replicate (cnt w h).toNat (-1:Int))=(cnt w h).toNat:=by unfold neg;simp [List.countP_replicate]
 rw [h2] at h1
 have h3:((neg (start w h root):Nat):Int)+1=cnt w h:=by unfold start;omega
 refine ⟨⟨by unfold start;simp;omega,fun v hv=>?_,by simp,by omega,by simp;omega,fun v hv=>?_⟩,h3⟩
 ·simp only [List.mem_singleton] at hv
  subst hv
  refine ⟨hr,?_⟩
  unfold start;rw [S7 hr.1 hl hr.1,if_pos rfl];omega
 ·rcases List.mem_or_eq_of_mem_set hv with h6|rfl
  ·have:=List.eq_of_mem_replicate h6;omega
  ·omega
theorem Run.inv {w h:Int} {b s rest nx:List Int} {d:Int} {r:List Int} (R:Run w h b s rest nx d r):Inv w h s rest nx d→∃d',Inv w h r [] [] d':=by
 induction R with
 | done s d=>exact fun i=>⟨d,i⟩
 | level _ ih=>exact fun i=>ih i.level
 | node _ ih=>exact fun i=>ih i.node
def rootOk (w h:Int) (b:List Int) (root:Int):Prop:=meshOk w h b∧isN w h root
instance (w h:Int) (b:List Int) (root:Int):Decidable (rootOk w h b root):=inferInstanceAs (Decidable (_∧_))
theorem Lq {w h:Int} (b:List Int) {root:Int} (hr:isN w h root):∃r,Run w h b (start w h root) [root] [] 1 r:=Qc3 _ _ _ _ _ (Nat.le_refl _) (Yb hr).1
noncomputable def depths (w h:Int) (b:List Int) (root:Int):List Int:=if H:rootOk w h b root then Classical.choose (Lq b H.2) else []
theorem Y8 {w h:Int} {b:List Int} {root:Int} (H:rootOk w h b root):Run w h b (start w h root) [root] [] 1 (depths w h b root):=by
 unfold depths;rw [dif_pos H];exact Classical.choose_spec (Lq b H.2)
theorem Z4 {w h:Int} {b:List Int} {root:Int} (H:¬rootOk w h b root):depths w h b root=[]:=dif_neg H
theorem Wg {w h:Int} {b:List Int} {root:Int} (H:rootOk w h b root):(((depths w h b root).length:Nat):Int)=cnt w h∧∀v∈depths w h b root,-1≤v∧v≤16:=by
 obtain ⟨d,i⟩:=(Y8 H).inv (Yb H.2).1
 have hc:=Qf w h
 refine ⟨i.len,fun v hv=>?_⟩
 have:=i.low v hv;have:=i.sum;omega
theorem V9 (w h:Int) (b:List Int) (root:Int):(depths w h b root).length≤16:=by
 have hc:=Qf w h
 by_cases H:rootOk w h b root
 ·have:=(Wg H).1;omega
 ·rw [Z4 H];simp
theorem Ez {w h:Int} {b:List Int} {root:Int} {v:Int} (hv:v∈depths w h b root) : -1≤v∧v≤16:=by
 by_cases H:rootOk w h b root
 ·exact (Wg H).2 v hv
 ·rw [Z4 H] at hv;simp at hv
theorem Ak {w h:Int} (h1:okG w h):isN w h 0:=by
 have:=Xm h1
 refine ⟨by omega,?_⟩
 unfold cnt;rw [if_pos h1];omega
def conn (w h:Int) (b:List Int):Prop:=meshOk w h b∧-1∉depths w h b 0
noncomputable instance (w h:Int) (b:List Int):Decidable (conn w h b):=inferInstanceAs (Decidable (_∧_))
noncomputable def depthOf (w h:Int) (b:List Int) (root:Int):Int:=(depths w h b root).foldl max (-1)
noncomputable def better (w h:Int) (b:List Int) (best:Int) (root:Nat):Int:=if depthOf w h b (root:Int)<depthOf w h b best then (root:Int) else best
noncomputable def bestRoot (w h:Int) (b:List Int):Int:=if conn w h b then (List.range (cnt w h).toNat).foldl (better w h b) 0 else -1
def toRoot (w h:Int) (b d:List Int) (i:Int) (p:Nat):Prop:=link w h b (4*i+p)∧rd d (next w h i p)=rd d i-1
instance (w h:Int) (b d:List Int) (i:Int) (p:Nat):Decidable (toRoot w h b d i p):=inferInstanceAs (Decidable (_∧_))
def par (w h:Int) (b d:List Int) (i:Int):Int:=
 if rd d i>0 then
  (if toRoot w h b d i 0 then next w h i (0:Nat) else if toRoot w h b d i 1 then next w h i (1:Nat) else if toRoot w h b d i 2 then next w h i (2:Nat) else if toRoot w h b d i 3 then next w h i (3:Nat) else -1)
 else -1
def pars (w h:Int) (b d:List Int):List Int:=(List.range d.length).map fun i:Nat=>par w h b d (i:Int)
noncomputable def parents (w h:Int) (b:List Int) (root:Int):List Int:=pars w h b (depths w h b root)
theorem X1 (w h:Int) (b:List Int) (root:Int):(parents w h b root).length=(depths w h b root).length:=by simp [parents,pars]
def Hi (d:Int) (x:List Int×List Int):Prop:=∀v∈x.1,v<d∨(v=d∧x.2≠[])
theorem Qdm {w h:Int} {b:List Int} {a d:Int} {x:List Int×List Int} {p:Nat} (hx:Hi d x):Hi d (vst w h b a d x p):=by
 unfold vst
 split
 ·intro v hv
  rcases List.mem_or_eq_of_mem_set hv with h6|rfl
  ·rcases hx v h6 with h7|h7
   ·exact .inl h7
   ·exact .inr ⟨h7.1,by simp⟩
  ·exact .inr ⟨rfl,by simp⟩
 ·exact hx
theorem Fa {w h:Int} {b:List Int} {a d:Int}:∀(l:List Nat) (x:List Int×List Int),Hi d x→Hi d (l.foldl (vst w h b a d) x)
 | [],x,hx=>hx
 | p::l,x,hx=>Fa l _ (Qdm hx)
theorem Run.hi {w h:Int} {b s rest nx:List Int} {d:Int} {r:List Int} (R:Run w h b s rest nx d r):Inv w h s rest nx d→Hi d (s,nx)→∀v∈r,v<cnt w h:=by
 induction R with
 | done s d=>
  intro i hh v hv
  rcases hh v hv with h1|h1
  ·have:=i.sum;simp at this;omega
  ·exact absurd rfl h1.2
 | level _ ih=>
  exact fun i hh=>ih i.level (fun v hv=>by rcases hh v hv with h1|h1<;>exact .inl (by omega))
 | node _ ih=>exact fun i hh=>ih i.node (Fa _ _ hh)
theorem xk {w h:Int} {b:List Int} {root:Int} (H:rootOk w h b root):∀v∈depths w h b root,v<cnt w h:=by
 refine (Y8 H).hi (Yb H.2).1 (fun v hv=>?_)
 have:=(Yb H.2).1.low v hv
 rcases List.mem_or_eq_of_mem_set hv with h6|rfl
 ·have:=List.eq_of_mem_replicate h6;exact .inl (by omega)
 ·exact .inl (by omega)
theorem Ln (w h:Int) (b d:List Int) (i:Int):par w h b d i=-1∨∃p:Nat,p<4∧par w h b d i=next w h i p∧toRoot w h b d i p∧rd d i>0:=by
 unfold par
 by_cases h0:rd d i>0
 ·rw [if_pos h0]
  by_cases e0:toRoot w h b d i 0
  ·rw [if_pos e0];exact .inr ⟨0,by omega,rfl,e0,h0⟩
  rw [if_neg e0]
  by_cases e1:toRoot w h b d i 1
  ·rw [if_pos e1];exact .inr ⟨1,by omega,rfl,e1,h0⟩
  rw [if_neg e1]
  by_cases e2:toRoot w h b d i 2
  ·rw [if_pos e2];exact .inr ⟨2,by omega,rfl,e2,h0⟩
  rw [if_neg e2]
  by_cases e3:toRoot w h b d i 3
  ·rw [if_pos e3];exact .inr ⟨3,by omega,rfl,e3,h0⟩
  rw [if_neg e3];exact .inl rfl
 ·rw [if_neg h0];exact .inl rfl
def Tree (t:List Int) (m:Int→Int):Prop:=∀i:Int,0≤i→i<t.length→m i<t.length∧(rd t i=-1∨(0≤rd t i∧rd t i<t.length∧0≤m (rd t i)∧m (rd t i)+1=m i))
theorem Sq {w h:Int} {b:List Int} {root:Int} (H:rootOk w h b root):Tree (parents w h b root) (rd (depths w h b root)):=by
 have hl:=X1 w h b root
 obtain ⟨hc,_⟩:=Wg H
 intro i h0 h1
 have h2:i<((depths w h b root).length:Int):=by omega
 refine ⟨by have:=xk H _ (Vi h0 h2);omega,?_⟩
 have e:rd (parents w h b root) i=par w h b (depths w h b root) i:=by
  obtain ⟨j,rfl⟩:=Int.eq_ofNat_of_zero_le h0
  rw [Zi (by omega)];simp [parents,pars]
 rw [e]
 rcases Ln w h b (depths w h b root) i with h3|⟨p,hp,h3,h4,h5⟩
 ·exact .inl h3
 ·obtain ⟨_,hn,_⟩:=Wi hp h4.1
  rw [h3]
  refine .inr ⟨hn.1,by have:=hn.2;omega,?_,?_⟩
  ·have:=h4.2;omega
  ·have:=h4.2;omega
def inP (P:List Int) (a:Int):Prop:=0≤a∧a<P.length
instance (P:List Int) (a:Int):Decidable (inP P a):=inferInstanceAs (Decidable (_∧_))
@[simp] theorem Qij (P:List Int):inP P (-1)=False:=by simp [inP]
def ancN (P:List Int):Nat→Int→List Int→List Int
 | 0,a,out=>if inP P a then [] else if a=-1∧out≠[] then out else []
 | f+1,a,out=>if inP P a then ancN P f (rd P a) (out++[a]) else if a=-1∧out≠[] then out else []
def anc (P:List Int) (a:Int):List Int:=ancN P P.length a []
theorem vx (P:List Int):∀f a out,(ancN P f a out).length≤out.length+f:=by
 intro f
 induction f with
 | zero=>
  intro a out;unfold ancN;repeat' split
  all_goals simp
 | succ f ih=>
  intro a out;unfold ancN;split
  ·have:=ih (rd P a) (out++[a]);simp at this;omega
  ·split<;>simp
theorem Px (P:List Int) (a:Int):(anc P a).length≤P.length:=by have:=vx P P.length a [];simpa [anc] using this
theorem Qah (P:List Int):∀f a out,(∀x∈out,inP P x)→∀x∈ancN P f a out,inP P x:=by
 intro f
 induction f with
 | zero=>
  intro a out ho x hx;unfold ancN at hx;repeat' split at hx
  all_goals first|exact ho x hx|(simp at hx)
 | succ f ih=>
  intro a out ho x hx;unfold ancN at hx;split at hx
  ·rename_i h1
   exact ih _ _ (fun y hy=>by rcases List.mem_append.1 hy with hy|hy;exact ho y hy;rw [List.mem_singleton.1 hy];exact h1) x hx
  ·split at hx
   ·exact ho x hx
   ·simp at hx
theorem Qea {P:List Int} {a x:Int} (h:x∈anc P a):inP P x:=Qah P P.length a [] (by simp) x h
def common (P:List Int) (a b:Int):Int:=((anc P a).find? (fun x=>decide (x∈anc P b))).getD (-1)
theorem qd {P:List Int} {a b:Int} (h:∀x∈anc P a,x∉anc P b):common P a b=-1:=by
 unfold common
 rw [List.find?_eq_none.2 (by simpa using h)];rfl
theorem Z8 {P:List Int} {a b:Int} (h:0≤common P a b):common P a b∈anc P a∧common P a b∈anc P b:=by
 unfold common at h ⊢
 cases hf:(anc P a).find? (fun x=>decide (x∈anc P b)) with
 | none=>rw [hf] at h;simp at h
 | some u=>
  have h1:=List.mem_of_find?_eq_some hf
  have h2:=List.find?_some hf
  exact ⟨h1,by simpa using h2⟩
def treeNodes (P:List Int) (a b:Int):List Int:=
 if common P a b<0 then [] else (anc P a).take ((anc P a).idxOf (common P a b)+1)++((anc P b).take ((anc P b).idxOf (common P a b))).reverse
theorem Qcc {l:List Int} {q:Int→Bool} {j:Nat} (h:j<l.length) (hq:∀x∈l.take j,q x=false) (hx:q l[j]=true):l.find? q=some l[j]:=by
 have e:l=l.take j++(l[j]::l.drop (j+1)):=by rw [← List.drop_eq_getElem_cons h,List.take_append_drop]
 have e2:=congrArg (List.find? q) e
 rw [e2,List.find?_append,List.find?_eq_none.2 (by simpa using hq),List.find?_cons_of_pos hx];rfl
def chain (t:List Int):Nat→Int→List Int
 | 0,_=>[]
 | k+1,v=>if inP t v then v::chain t k (rd t v) else []
def Ends (t:List Int):Nat→Int→Prop
 | 0,v=>v=-1
 | k+1,v=>v=-1∨(inP t v∧Ends t k (rd t v))
theorem Tree.ends {t:List Int} {m:Int→Int} (T:Tree t m):∀(k:Nat) (v:Int),0≤v→v<t.length→m v<k→(0≤m v∨0<k)→Ends t k v:=by
 intro k
 induction k with
 | zero=>intro v h0 h1 h2 h3;omega
 | succ k ih=>
  intro v h0 h1 h2 _
  refine .inr ⟨⟨h0,h1⟩,?_⟩
  rcases (T v h0 h1).2 with h3|⟨h3,h4,h5,h6⟩
  ·rw [h3];cases k<;>simp [Ends]
  ·exact ih _ h3 h4 (by omega) (.inl h5)
theorem Dp {t:List Int}:∀(k:Nat) (v:Int) (out:List Int),Ends t k v→(out≠[]∨(0≤v∧v<t.length))→ancN t k v out=out++chain t k v:=by
 intro k
 induction k with
 | zero=>
  intro v out he ho
  have he:v=-1:=he
  subst he
  have ho:out≠[]:=ho.resolve_right (by omega)
  simp [ancN,chain,ho]
 | succ k ih=>
  intro v out he ho
  rcases he with rfl|⟨h1,h2⟩
  ·have ho:out≠[]:=ho.resolve_right (by omega)
   simp [ancN,chain,ho]
  ·simp only [ancN,chain]
   rw [if_pos h1,if_pos h1,ih _ _ h2 (.inl (by simp))]
   simp
theorem xg {t:List Int}:∀(k k':Nat) (v:Int),Ends t k v→Ends t k' v→chain t k v=chain t k' v:=by
 intro k
 induction k with
 | zero=>
  intro k' v h1 h2
  have h1:v=-1:=h1
  subst h1
  cases k' with
  | zero=>rfl
  | succ k'=>simp [chain]
 | succ k ih=>
  intro k' v h1 h2
  cases k' with
  | zero=>
   have h2:v=-1:=h2
   subst h2;simp [chain]
  | succ k'=>
   rcases h1 with rfl|⟨h1,h3⟩
   ·simp [chain]
   ·rcases h2 with rfl|⟨_,h4⟩
    ·simp at h1
    ·simp only [chain];rw [if_pos h1,if_pos h1,ih _ _ h3 h4]
theorem Ei {t:List Int} {m:Int→Int} (T:Tree t m) {v:Int} (h0:0≤v) (h1:v<t.length):anc t v=v::(if rd t v=-1 then [] else anc t (rd t v)):=by
 have hE:∀u:Int,0≤u→u<t.length→Ends t t.length u:=fun u a b=>T.ends t.length u a b (T u a b).1 (.inr (by omega))
 have e:∀u:Int,0≤u→u<t.length→anc t u=chain t t.length u:=fun u a b=>by
  have:=Dp t.length u [] (hE u a b) (.inr ⟨a,b⟩);simpa [anc] using this
 rw [e v h0 h1]
 obtain ⟨n,hn⟩:∃n,t.length=n+1:=⟨t.length-1,by omega⟩
 have h2:=hE v h0 h1
 rw [hn] at h2 ⊢
 rcases h2 with h2|⟨_,h3⟩
 ·omega
 simp only [chain]
 rw [if_pos (show inP t v from ⟨h0,h1⟩)]
 rcases (T v h0 h1).2 with h4|⟨h4,h5,_,_⟩
 ·rw [if_pos h4,h4];cases n<;>simp [chain]
 ·rw [if_neg (by omega),e _ h4 h5,xg n t.length _ h3 (hE _ h4 h5)]
end Go.Proofs.YtaldglgobgjeaaaGreat.V
set_option linter.all false
namespace Go.Proofs.YtaldglgobgjeaaaGreat.V
open Go Go.VM Go.Proofs
set_option maxRecDepth 10000
variable {frz:Nat} {H:Heap}
theorem Qgg (v:Value) (P:List Int) (a:Int) (hI:IsI H v P) (hl:P.length≤1073741823) :
 vcall C frz 148 [v,.int .i64 a] H=some (if anc P a=[] then (.slice none 0 0,H) else (.slice (some ⟨H.length,0,some 0⟩) (anc P a).length 0,H++[⟨(anc P a).map (.int .i64),0,3⟩])):=by
 rw [Qb (fn:=Tryz.f148) Tryz.func148 rfl (by kernel_rfl) rfl]
 simp
 refine Xy (fun n t H'=>∃(o:List Int) (g:Nat) (x:Int) (G:Heap),n=P.length-o.length∧t 0=v∧t 5=.slice (some ⟨H.length,0,some g⟩) o.length 0∧t 6=.int .i64 x∧
  H'=H++⟨o.map (.int .i64),g,3⟩::G∧o.length≤P.length∧ancN P (P.length-o.length) x o=anc P a) ?_ (n:=P.length) ⟨[],0,a,[],by simp [anc]⟩
 rintro n t H' ⟨o,g,x,G,rfl,h0,h5,h6,rfl,ho,hw⟩ ih
 have hin:inR 0 x (IntKind.i64.wrap ((P.length:Int)-1))↔inP P x:=by
  rw [w64 (by omega) (by omega)];simp only [inR,inP];omega
 simp [h0,h5,h6,hI.lenA,Zh,Qj,hin]
 have hz:¬inP P x→anc P a=if x=-1∧o≠[] then o else []:=fun hx=>by
  rw [← hw];cases P.length-o.length<;>simp only [ancN,if_neg hx]
 have hm:¬inP P (-1):=fun hh=>by have:=hh.1;omega
 refine We _ _ ?_ ?_<;>intro h1
 ·have hx:¬inP P x:=h1▸hm
  by_cases ho0:o=[]
  ·have:=hz hx
   simp [ho0] at this
   have hm':¬inR 0 (-1) (IntKind.i64.wrap ((P.length:Int)-1)):=fun hh=>by have:=hh.1;omega
   simp [h0,h5,h6,h1,ho0,hI.lenA,Qj,hm',this]
  ·have hol:o.length≠0:=fun hh=>ho0 (List.length_eq_zero_iff.1 hh)
   have:=hz hx
   simp [h1,ho0] at this
   simp [h0,h5,h6,h1,ho0,this]
 ·simp [h0,h5,h6,h1,hI.lenA,Qj,hin]
  refine We _ _ ?_ ?_<;>intro hx
  ·simp [h0,h5,h6,hx,hI.lenA]
   refine Qq _ ?_ ?_<;>intro hf
   ·have hz':anc P a=[]:=by
     rw [← hw,show P.length-o.length=0 by omega,ancN,if_pos hx]
    simp [h0,h5,h6,hz']
   ·have q1:∀L,vindexAddr Tryz.prog (H++L) 26 v (.int .i64 x)=some (elp v x.toNat):=fun L=>hI.idxA (e:=3) (by simp) hx.1 hx.2
    have q2:∀L,vload Tryz.prog (H++L) 3 (elp v x.toNat)=some (.int .i64 (rd P x)):=fun L=>hI.loadA (by simp) (by have:=hx.1;have:=hx.2;omega)
    simp [h0,h5,h6]
    refine W3 (by omega) ?_
    simp [h0,h5,h6,q1,q2]
    refine ih (P.length-(o.length+1)) _ _ ⟨o++[x],g+1,rd P x,_,by simp,by simp [h0],by simp,by simp,by simp;rfl,by simp;omega,?_⟩ (by omega)
    rw [show P.length-o.length=(P.length-(o++[x]).length)+1 by simp;omega,ancN,if_pos hx] at hw
    exact hw
  ·have:=hz hx
   simp [h1] at this
   simp [h0,h5,h6,hx,this]
theorem Gz {xs:List Int} {r:Option (Value×Heap)} (h:r=some (if xs=[] then (.slice none 0 0,H) else (.slice (some ⟨H.length,0,some 0⟩) xs.length 0,H++[⟨xs.map (.int .i64),0,3⟩]))):wp r (Made Fl.int 3 H xs):=by
 subst h
 by_cases hx:xs=[]
 ·simp [hx];exact ⟨[],by simp,.inl ⟨rfl,rfl⟩,by simp⟩
 ·simp [hx]
  exact ⟨_,rfl,Ow.new0 rfl (Q8 xs).symm (by simp) rfl,by simp⟩
theorem B0 (v:Value) (P:List Int) (a:Int) (hI:IsI H v P) (hl:P.length≤1073741823):wp (vcall C frz 148 [v,.int .i64 a] H) (Made Fl.int 3 H (anc P a)):=Gz (Qgg v P a hI hl)
theorem wk {P:List Int} {a b:Int} {i:Nat} (h:i<(anc P a).length) (h1:∀x∈(anc P a).take i,x∉anc P b) (h2:(anc P a)[i]∈anc P b):common P a b=(anc P a)[i]:=by
 unfold common
 rw [Qcc h (by simpa using h1) (by simpa using h2)];rfl
theorem Jk {xs:List Int} {p:Int→Prop} {i:Nat} (h:i<xs.length) (h1:∀x∈xs.take i,p x) (h2:p xs[i]):∀x∈xs.take (i+1),p x:=by
 rw [List.take_succ_eq_append_getElem h]
 intro x hx
 rcases List.mem_append.1 hx with hx|hx
 ·exact h1 x hx
 ·rw [List.mem_singleton.1 hx];exact h2
theorem ym (v:Value) (P:List Int) (a b:Int) (hI:IsI H v P) (hl:P.length≤1073741823) :
 wp (vcall C frz 147 [v,.int .i64 a,.int .i64 b] H) (fun r _=>r=.int .i64 (common P a b)):=by
 rw [Qb (fn:=Tryz.f147) Tryz.func147 rfl (by kernel_rfl) rfl]
 simp
 refine Qd (B0 v P b hI hl) ?_
 rintro vb _ ⟨L1,rfl,ob,nb⟩
 simp
 refine Qd (B0 v P a (hI.app _) hl) ?_
 rintro va _ ⟨L2,rfl,oa,na⟩
 have ob:=(ob.app (L:=L2)).rd.isI
 have oa:=oa.rd.isI
 have hla:=Px P a
 have hlb:=Px P b
 simp only [List.append_assoc] at oa ob
 simp [oa.len]
 refine Qh (fun n t H'=>∃i:Nat,n=(anc P a).length-i∧i≤(anc P a).length∧t 7=vb∧t 15=va∧t 16=.int .i64 (anc P a).length∧t 17=.int .i64 i∧H'=H++(L1++L2)∧∀x∈(anc P a).take i,x∉anc P b) ?_ (n:=(anc P a).length) ⟨0,by simp⟩
 rintro n t H' ⟨i,rfl,hi,h7,h15,h16,h17,rfl,hj⟩ ih
 simp [h7,h15,h16,h17]
 refine Qc ?_ ?_<;>intro h5
 ·simp [h7,h15,h16,h17,h5,oa.idx,oa.load,Q5,Y7 _ _ _ ob (by omega)]
  refine Qc ?_ ?_<;>intro h6
  ·simp [h7,h15,h16,h17,h5,h6]
   exact (wk h5 hj h6).symm
  ·simp [h7,h15,h16,h17,h5,h6]
   refine ih ((anc P a).length-(i+1)) _ _ ⟨i+1,rfl,by omega,by simp [h7],by simp [h15],by simp [h16],?_,rfl,Jk h5 hj h6⟩ (by omega)
   simp;rw [w64 (by omega) (by omega)]
 ·have:i=(anc P a).length:=by omega
  subst this
  simp
  rw [List.take_length] at hj
  rw [qd hj]
theorem gt (v:Value) (P:List Int) (a b:Int) (hI:IsI H v P) (hl:P.length≤1073741823):vcall C frz 147 [v,.int .i64 a,.int .i64 b] H=some (.int .i64 (common P a b),H):=
 (ym v P a b hI hl).exact (by simp) rfl
def flip (xs:List Int) (i:Nat):List Int:=(List.range xs.length).map fun j=>if j<i∨xs.length-i≤j then rd xs ((xs.length-1-j:Nat):Int) else rd xs (j:Int)
theorem Yh (xs:List Int) (i:Nat):(flip xs i).length=xs.length:=by simp [flip]
theorem Zt (xs:List Int) (i j:Nat) (h:j<xs.length):(flip xs i)[j]'(by rw [Yh];exact h)=if j<i∨xs.length-i≤j then xs[xs.length-1-j] else xs[j]:=by
 simp only [flip,List.getElem_map,List.getElem_range]
 split
 ·rw [Zi (by omega)]
 ·rw [Zi h]
theorem xz (xs:List Int):flip xs 0=xs:=by
 apply List.ext_getElem (Yh _ _)
 intro j h1 h2
 rw [Zt _ _ _ h2,if_neg (by omega)]
theorem jb (xs:List Int) (i:Nat) (h:xs.length≤2*i+1):flip xs i=xs.reverse:=by
 apply List.ext_getElem (by rw [Yh,List.length_reverse])
 intro j h1 h2
 rw [Zt _ _ _ (by simpa using h2),List.getElem_reverse]
 split
 ·rfl
 ·congr 1;rw [List.length_reverse] at h2;omega
theorem Aq (xs:List Int) (i:Nat) (h:2*i+1<xs.length):((flip xs i).set i ((flip xs i)[xs.length-1-i]'(by rw [Yh];omega))).set (xs.length-1-i) ((flip xs i)[i]'(by rw [Yh];omega))=flip xs (i+1):=by
 apply List.ext_getElem (by simp [Yh])
 intro j h1 h2
 rw [Yh] at h2
 rw [List.getElem_set,List.getElem_set,Zt _ _ _ h2,Zt _ _ _ (by omega),Zt _ _ _ (by omega),Zt _ _ _ h2]
 by_cases e1:xs.length-1-i=j
 ·subst e1
  rw [if_pos rfl,if_neg (by omega),if_pos (by omega)]
  congr 1;omega
 ·by_cases e2:i=j
  ·subst e2
   rw [if_neg e1,if_pos rfl,if_neg (by omega),if_pos (by omega)]
  ·rw [if_neg e1,if_neg e2]
   by_cases e3:j<i∨xs.length-i≤j
   ·rw [if_pos e3,if_pos (by omega)]
   ·rw [if_neg e3,if_neg (by omega)]
theorem Ao (v:Value) (xs:List Int) (e:TypeId) (h:Ow Fl.int e H v xs) (hl:xs.length≤1073741824) (hf:∀i∈ids v,frz≤i) :
 wp (vcall C frz 149 [v] H) (fun _ H'=>Ow Fl.int e H' v xs.reverse∧Chg H H' (ids v)∧H'.length=H.length):=by
 rw [Qb (fn:=Tryz.f149) Tryz.func149 rfl (by kernel_rfl) rfl]
 simp [h.rd.len]
 refine Qh (fun n t H'=>∃i:Nat,n=xs.length-i∧i≤xs.length∧t 0=v∧t 2=.int .i64 i∧t 3=.int .i64 (xs.length-1-i)∧2*i≤xs.length+1∧Ow Fl.int e H' v (flip xs i)∧Chg H H' (ids v)∧H'.length=H.length) ?_ (n:=xs.length)
  ⟨0,by simp,by omega,by simp,by simp,by simp;exact w64 (by omega) (by omega),by omega,by rw [xz];exact h,Chg.refl _,rfl⟩
 rintro n t H' ⟨i,rfl,hi,h0,h2,h3,h2i,o,c,l⟩ ih
 simp [h0,h2,h3]
 refine Qc ?_ ?_<;>intro h5
 ·have i1:=o.rd.isI
  have fl:=Yh xs i
  have e1:((xs.length:Int)-1-i).toNat=xs.length-1-i:=by omega
  have e2:((xs.length:Int)-1-i)=((xs.length-1-i:Nat):Int):=by omega
  rw [e2] at h3
  simp [h0,h2,h3,h5]
  rw [Qe (h:=by kernel_rfl)]
  have p1:i<(flip xs i).length:=by omega
  have p2:xs.length-1-i<(flip xs i).length:=by omega
  simp [h0,h2,h3,h5,i1.idx,i1.load,p1,p2,Q5]
  obtain ⟨H1,s1,o1,c1,l1⟩:=o.put1 (P:=Tryz.prog) (frz:=frz) rfl (et:=3) (ag:=false) (by simp) p1 (x:=.int .i64 ((flip xs i)[xs.length-1-i])) rfl rfl rfl hf
  have i2:=o1.rd.isI
  have p3:xs.length-1-i<((flip xs i).set i (flip xs i)[xs.length-1-i]).length:=by simp;omega
  obtain ⟨H2,s2,o2,c2,l2⟩:=o1.put1 (P:=Tryz.prog) (frz:=frz) rfl (et:=3) (ag:=false) (by simp) p3 (x:=.int .i64 ((flip xs i)[i])) rfl rfl rfl hf
  simp [s1,h0,h2,h3,i2.idx,p2,s2]
  refine ih (xs.length-(i+1)) _ _ ⟨i+1,rfl,by omega,by simp [h0],?_,?_,by omega,?_,c.trans (c1.trans c2),by omega⟩ (by omega)
  ·simp;rw [w64 (by omega) (by omega)]
  ·simp;rw [w64 (by omega) (by omega)];omega
  ·rw [Aq xs i (by omega)] at o2;exact o2
 ·simp
  exact ⟨by rw [← jb xs i (by omega)];exact o,c,l⟩
theorem Ni (p:Int):vcall C frz 132 [.int .i64 p] H=some (.int .i64 (opp p),H):=by
 rw [Qb (fn:=Tryz.f132) Tryz.func132 rfl (by kernel_rfl) rfl]
 simp
 refine Qq _ ?_ ?_<;>intro h1<;>simp [h1,opp,Qj]
 refine Qq _ ?_ ?_<;>intro h2
 ·obtain ⟨h3,h4⟩:=h2
  simp [h3,h4]
  rw [w64 (by omega) (by omega),Int.tmod_eq_emod_of_nonneg (by omega)]
 ·have h3:¬(0≤p∧p≤3):=h2
  simp [h3]
theorem yf (p:Int) : -1≤opp p∧opp p≤4:=by unfold opp;split<;>(try split)<;>omega
theorem C2 (w h c:Int) : -1≤endC w h c∧endC w h c<16:=Dz _ _ _ _
theorem zg {w h c:Int}:IntKind.i64.wrap (4*endC w h c)=4*endC w h c∧IntKind.i64.wrap (4*endC w h c+opp (c%4))=backC w h c:=by
 have h1:=C2 w h c
 have h2:=yf (c%4)
 exact ⟨w64 (by omega) (by omega),by unfold backC;exact w64 (by omega) (by omega)⟩
theorem Qd2 (w h:Int) (v:Value) (b:List Int) (c:Int) (hI:IsI H v b) (h0:leads w h c) :
 vcall C frz 178 [.agg #[.int .i64 w,.int .i64 h,v],.int .i64 c] H=some (.int .i64 (backC w h c),H):=by
 rw [Qb (fn:=Tryz.f178) Tryz.func178 rfl (by kernel_rfl) rfl]
 obtain ⟨e1,e2⟩:=Se h0.1
 obtain ⟨e3,e4⟩:=zg (w:=w) (h:=h) (c:=c)
 have e5:next w h (c/4) (c%4)=endC w h c:=rfl
 simp [hI.one',hI.cells,Sn _ _ _ _ _ (hI.app _) h0,e2,Ni,e3,e4,e5]
theorem Eo (w h:Int) (v:Value) (b:List Int) (c:Int) (hI:IsI H v b) (hl:b.length≤1073741824) :
 vcall C frz 146 [.agg #[.int .i64 w,.int .i64 h,v],.int .i64 c] H=some (.bool (decide (meshOk w h b∧link w h b c)),H):=by
 rw [Qb (fn:=Tryz.f146) Tryz.func146 rfl (by kernel_rfl) rfl]
 simp [hI.one',hI.cells]
 rw [Qe (h:=by kernel_rfl)]
 simp [hI.one',hI.cells,Yv _ _ _ _ _ (hI.app _) hl,-Bool.decide_and]
 refine We _ _ ?_ ?_<;>intro h1
 ·simp [h1,hI.one',hI.cells,Qd2 _ _ _ _ _ (hI.app _) h1.2.1,Yv _ _ _ _ _ (hI.app _) hl,link]
 ·have h2:¬(meshOk w h b∧link w h b c):=fun hh=>h1 ⟨hh.1,hh.2.1⟩
  simp [h1]
  exact fun a b=>h2 ⟨a,b⟩
theorem u64w {x:Int} (h1:0≤x) (h2:x≤18446744073709551615):IntKind.u64.wrap x=x:=by
 have:IntKind.u64.wrap x=x%18446744073709551616:=by
  simp [IntKind.wrap,IntKind.bits,IntKind.signed]
 rw [this];omega
theorem Rf (m:Nat) (h:m<4294967296):iand .u64 (m:Int) 4294967295=m:=by
 have:=gp m 4294967295 (by omega) (by omega) .u64 rfl
 have e:((4294967295:Nat):Int)=4294967295:=rfl
 rw [e] at this
 unfold iand
 rw [this,show (4294967295:Nat)=2 ^ 32-1 from rfl,Nat.and_two_pow_sub_one_eq_mod,u64w (by omega) (by omega)]
 omega
theorem ishr32 (m:Nat) (h:m<4294967296):ishr .u64 (m:Int) 32=0:=by
 have:=Gm .u64 m 32 (by decide)
 have e:((32:Nat):Int)=32:=rfl
 rw [e] at this
 rw [this];omega
theorem Qbl (n:Nat) (h:n<4294967296):vcall C frz 196 [.int .u64 1,.int .u64 n] H=some (.tuple #[.int .u64 0,.int .u64 n],H):=by
 rw [Qb (fn:=Tryz.f196) Tryz.func196 rfl (by kernel_rfl) rfl]
 have a1:=Rf 1 (by omega)
 have a0:=Rf 0 (by omega)
 have s1:=ishr32 1 (by omega)
 have s0:=ishr32 0 (by omega)
 have an:=Rf n h
 have sn:=ishr32 n h
 simp only [Int.natCast_zero,Int.natCast_one] at a1 a0 s1 s0
 have w0:IntKind.u64.wrap 0=0:=by decide
 have wn:IntKind.u64.wrap (n:Int)=n:=u64w (by omega) (by omega)
 simp [a1,s1,an,sn,wn,w0,a0,s0]
theorem Qgj (n:Nat) (h:n<4294967296):vcall C frz 181 [.int .u64 1,.int .u64 n] H=some (.tuple #[.int .u64 0,.int .u64 n],H):=by
 rw [Qb (fn:=Tryz.f181) Tryz.func181 rfl (by kernel_rfl) rfl]
 simp [Qbl n h]
theorem Oa (c z:Value) (k m:Nat) (j:Nat) (h:j≤m):VM.splice (List.replicate k c++List.replicate m z) k (List.replicate j c)=List.replicate (k+j) c++List.replicate (m-j) z:=by
 unfold VM.splice
 rw [List.take_left' (by simp),List.drop_append,List.drop_of_length_le (by simp)]
 simp only [List.length_replicate,Nat.add_sub_cancel_left,List.nil_append,List.drop_replicate]
 rw [List.replicate_append_replicate]
theorem Ic (id:Nat) (c:Int) (n:Nat) (hr:H[id]? = some ⟨[.int .i64 c],0,3⟩) (h1:1≤n) (h2:n≤536870912) :
 vcall C frz 154 [.slice (some ⟨id,0,some 0⟩) 1 0,.int .i64 n] H=some (.slice (some ⟨H.length,0,some 0⟩) n 0,H++[⟨List.replicate n (.int .i64 c),0,3⟩]):=by
 rw [Qb (fn:=Tryz.f154) Tryz.func154 rfl (by kernel_rfl) rfl]
 have e0:¬(n:Int)<0:=by omega
 have e1:IntKind.u64.wrap (n:Int)=n:=u64w (by omega) (by omega)
 have e2:IntKind.u64.wrap 1=1:=by decide
 have e3:IntKind.i64.wrap (n:Int)=n:=w64 (by omega) (by omega)
 have e4:¬(9223372036854775807:Int)<n:=by omega
 simp [VM.look,hr,e0,e1,e2,e3,e4,Qgj n (by omega)]
 refine W3 (by omega) ?_
 have lk:∀L,(H++L)[id]? = some ⟨[.int .i64 c],0,3⟩:=fun L=>by rw [List.getElem?_append_left (List.getElem?_eq_some_iff.1 hr).1,hr]
 have er:VM.splice (List.replicate n (Value.int .i64 0)) 0 [.int .i64 c]=List.replicate 1 (.int .i64 c)++List.replicate (n-1) (.int .i64 0):=by
  have:=Oa (.int .i64 c) (.int .i64 0) 0 n 1 h1
  simpa using this
 have m1:Nat.min 1 n=1:=Nat.min_eq_left h1
 simp [VM.look,lk,m1,er]
 refine Xy (fun m t H'=>∃k:Nat,m=n-k∧1≤k∧k≤n∧t 7=.slice (some ⟨H.length,0,some 0⟩) n 0∧t 8=.int .i64 k∧H'=H++[⟨List.replicate k (.int .i64 c)++List.replicate (n-k) (.int .i64 0),0,3⟩]) ?_ (n:=n-1) ⟨1,by simp [e3];exact h1⟩
 rintro m t H' ⟨k,rfl,hk1,hk,h7,h8,rfl⟩ ih
 simp [h7,h8]
 refine Qq _ ?_ ?_<;>intro hkn
 ·simp [h7,h8]
  rw [Qe (h:=by kernel_rfl)]
  simp [h7,h8]
  have hmin:k.min (n-k)=min k (n-k):=rfl
  have hrep:=Oa (.int .i64 c) (.int .i64 0) k (n-k) (min k (n-k)) (Nat.min_le_right _ _)
  have hones:ones (List.replicate k (Value.int .i64 c))=true:=by simp [ones,VM.one]
  refine W3 hk (W3 hk (W3 hones ?_))
  refine ih (n-(k+min k (n-k))) _ _ ⟨k+min k (n-k),rfl,by omega,by omega,by simp [h7],?_,?_⟩ (by omega)
  ·simp [hmin];rw [w64 (by omega) (by omega)]
  ·rw [hrep];congr 3;congr 1;congr 1;omega
 ·have:k=n:=by omega
  subst this
  simp [h7,h8]
theorem yj {α:Type} {D:Fl α} {e:TypeId} {L H':Heap} {xs:List α} {r:Value} (h:Made D e (H++L) xs r H'):Made D e H xs r H':=by
 obtain ⟨M,rfl,o,n⟩:=h
 exact ⟨L++M,by simp,by simpa using o,fun i hi=>by have:=n i hi;simp at this;omega⟩
theorem Fv (v:Value) (P:List Int) (a b:Int) (hI:IsI H v P) (hl:P.length≤536870911) :
 wp (vcall C frz 109 [v,.int .i64 a,.int .i64 b] H) (Made Fl.int 3 H (treeNodes P a b)):=by
 rw [Qb (fn:=Tryz.f109) Tryz.func109 rfl (by kernel_rfl) rfl]
 simp [gt _ _ _ _ hI (by omega)]
 refine Qc ?_ ?_<;>intro h0
 ·simp [treeNodes,h0]
  exact ⟨[],by simp,.inl ⟨rfl,rfl⟩,by simp⟩
 ·simp
  refine Qd (B0 v P a hI (by omega)) ?_
  rintro va _ ⟨L1,rfl,oa,na⟩
  simp
  refine Qd (B0 v P b (hI.app _) (by omega)) ?_
  rintro vb _ ⟨L2,rfl,ob,nb⟩
  have ltA:=oa.lt
  have oa:=oa.app (L:=L2)
  have hla:=Px P a
  have hlb:=Px P b
  simp only [List.append_assoc] at oa ob
  obtain ⟨ma,mb⟩:=Z8 (P:=P) (a:=a) (b:=b) (by omega)
  have ia:=List.idxOf_lt_length_iff.2 ma
  have ib:=List.idxOf_lt_length_iff.2 mb
  simp
  rw [Qe (h:=by kernel_rfl)]
  have e1:IntKind.i64.wrap (((anc P a).idxOf (common P a b):Int)+1)=(((anc P a).idxOf (common P a b)+1:Nat):Int):=by rw [w64 (by omega) (by omega)];omega
  obtain ⟨va',s1,oa',ida⟩:=oa.slice (P:=Tryz.prog) (ty:=26) (by simp) (lo:=none) (hi:=some (.int .i64 (((anc P a).idxOf (common P a b)+1:Nat):Int))) (l:=0) (u:=(anc P a).idxOf (common P a b)+1) rfl rfl (by omega) (by omega)
  obtain ⟨vb',s2,ob',idb⟩:=ob.slice (P:=Tryz.prog) (ty:=26) (by simp) (lo:=none) (hi:=some (.int .i64 ((anc P b).idxOf (common P a b):Int))) (l:=0) (u:=(anc P b).idxOf (common P a b)) rfl rfl (by omega) (by omega)
  rw [List.drop_zero,Nat.sub_zero] at oa' ob'
  have e0:place (anc P a) (common P a b)=((anc P a).idxOf (common P a b):Int):=if_pos ma
  have e00:place (anc P b) (common P a b)=((anc P b).idxOf (common P a b):Int):=if_pos mb
  rw [e1.symm] at s1
  simp [Ky _ _ _ oa.rd.isI (by omega),e0]
  simp only [s1]
  simp [Ky _ _ _ ob.rd.isI (by omega),e00]
  simp only [s2]
  simp
  rw [ida.symm] at na ltA
  rw [idb.symm] at nb
  refine Qd (Ao vb' _ 3 ob' (by simp;omega) (fun i hi=>by have:=nb i hi;simp at this;omega)) ?_
  rintro _ H3 ⟨ob3,c3,l3⟩
  have oa3:=oa'.chg c3 (fun i hi hh=>by have h1:=ltA i hi;have h2:=nb i hh;omega)
  obtain ⟨M,rfl⟩:∃M,H3=H++M:=((Chg.app (H:=H) (L:=L1++L2) []).trans' c3 (fun i hi=>.inr (by have:=nb i hi;simp at this;omega))).ex (by simp)
  simp
  simp [oa3.rd.one',oa3.rd.cells,ob3.rd.one',ob3.rd.cells]
  refine Qd (Q':=Made Fl.int 3 H (treeNodes P a b)) ?_ ?_
  ·refine (Gz (H:=H++(M++[⟨[va',vb'],0,26⟩])) (ke (H:=H++(M++[⟨[va',vb'],0,26⟩])) (H.length+M.length) va' vb' ((anc P a).take ((anc P a).idxOf (common P a b)+1)) ((anc P b).take ((anc P b).idxOf (common P a b))).reverse (by simp) ?_ ?_ (by simp;omega))).mono ?_
   ·have:=oa3.rd.isI.app [⟨[va',vb'],0,26⟩];simpa using this
   ·have:=ob3.rd.isI.app [⟨[va',vb'],0,26⟩];simpa using this
   ·intro r H4 h4
    rw [treeNodes,if_neg h0]
    exact yj h4
  ·intro r H4 h4
   simp
   exact h4
theorem rowget {xs:List Int} {x:Int} (h0:0≤x) (h1:x<xs.length):(xs.map (Value.int .i64))[x.toNat]? = some (.int .i64 (rd xs x)):=by
 obtain ⟨i,rfl⟩:=Int.eq_ofNat_of_zero_le h0
 rw [Zi (by omega)];simp
theorem jf {xs:List Int} {x:Int} (h0:0≤x) (h1:x<xs.length):xs[x.toNat]'(by omega)=rd xs x:=by
 obtain ⟨i,rfl⟩:=Int.eq_ofNat_of_zero_le h0
 rw [Zi (by omega)];rfl
theorem rowset {xs:List Int} {x c:Int} (h0:0≤x) (h1:x<xs.length):VM.splice (xs.map (Value.int .i64)) x.toNat [.int .i64 c]=(xs.set x.toNat c).map (.int .i64):=by
 unfold VM.splice
 rw [List.set_eq_take_append_cons_drop,if_pos (by omega)]
 simp
theorem wr1:IntKind.i64.wrap 1=1:=by decide
theorem yw {w h:Int} {b s rest nx r:List Int} {d:Int} (R:Run w h b s rest nx d r) (i:Inv w h s rest nx d):(rest=[]∧nx=[]∧s=r)∨
 ∃a rest' nx' d',rest++nx=a::(rest'++nx')∧Inv w h s (a::rest') nx' d'∧Run w h b (vis w h b a d' (s,nx')).1 rest' (vis w h b a d' (s,nx')).2 d' r:=by
 cases R with
 | done=>exact .inl ⟨rfl,rfl,rfl⟩
 | level R=>
  cases R with
  | node R=>exact .inr ⟨_,_,[],_,by simp,i.level,R⟩
 | node R=>exact .inr ⟨_,_,_,_,by simp,i,R⟩
theorem Ug (w h:Int) (v:Value) (b:List Int) (root:Int) (hI:IsI H v b) (hl:b.length≤1073741824) :
 wp (vcall C frz 145 [.agg #[.int .i64 w,.int .i64 h,v],.int .i64 root] H) (Made Fl.int 3 H (depths w h b root)):=by
 rw [Qb (fn:=Tryz.f145) Tryz.func145 rfl (by kernel_rfl) rfl]
 have one:=And.intro hI.one' hI.cells
 simp [one,Gj _ _ _ _ _ (hI.app _) hl,-Bool.decide_and]
 refine Qc ?_ ?_<;>intro hR
 ·have R:=Y8 hR
  have hc:=Qf w h
  obtain ⟨hm,hr⟩:=hR
  obtain ⟨i0,hq0⟩:=Yb hr
  obtain ⟨r0,r1⟩:=hr
  have hn1:1≤(cnt w h).toNat:=by omega
  have ecn:((cnt w h).toNat:Int)=cnt w h:=by omega
  have rep:=fun F L (hr:(H++⟨[.int .i64 w,.int .i64 h,v],0,28⟩::L)[H.length+1]? = some ⟨[.int .i64 (-1)],0,3⟩)=>Ic (frz:=F) (H:=H++⟨[.int .i64 w,.int .i64 h,v],0,28⟩::L) (H.length+1) (-1) (cnt w h).toNat hr hn1 (by omega)
  rw [ecn] at rep
  simp [one,Wb]
  rw [rep _ _ (by simp)]
  have er:List.replicate (cnt w h).toNat (Value.int .i64 (-1))=(List.replicate (cnt w h).toNat (-1:Int)).map (.int .i64):=by simp
  have es:=rowset (xs:=List.replicate (cnt w h).toNat (-1:Int)) (c:=0) r0 (by simp;omega)
  rw [er]
  simp only [kx]
  have hrl:root<((cnt w h).toNat:Int):=by omega
  simp [r0,r1,hrl,-List.map_replicate,es,-List.map_set]
  refine X4 (by omega) (X4 (by omega) ?_)
  have est:(List.replicate (cnt w h).toNat (-1:Int)).set root.toNat 0=start w h root:=rfl
  rw [est]
  have hlm:b.length≤1073741824:=hl
  refine Qh (fun n t H'=>∃(s don rest nx q:List Int) (d:Int) (g:Nat) (G:Heap),n=(cnt w h).toNat-don.length∧q=don++(rest++nx)∧
   t 2=.pointer (some ⟨H.length,0,some 0⟩)∧t 5=.slice (some ⟨H.length+2,0,some 0⟩) s.length 0∧t 6=.slice (some ⟨H.length+3,0,some g⟩) q.length 0∧t 7=.int .i64 don.length∧
   H'=H++⟨[.int .i64 w,.int .i64 h,v],0,28⟩::⟨[.int .i64 (-1)],0,3⟩::⟨s.map (.int .i64),0,3⟩::⟨q.map (.int .i64),g,3⟩::G∧
   Run w h b s rest nx d (depths w h b root)∧Inv w h s rest nx d∧((don.length+rest.length+nx.length+neg s:Nat):Int)=cnt w h) ?_
   (n:=(cnt w h).toNat) ⟨start w h root,[],[root],[],[root],1,0,[],by simp,by simp,by simp,by simp [start],by simp,by simp,by simp,R,i0,by simp;omega⟩
  clear R i0 hq0 rep
  rintro n t H' ⟨s,don,rest,nx,q,d,g,G,rfl,hqe,h2,h5,h6,h7,rfl,R,i,hq⟩ ih
  have hql:=congrArg List.length hqe
  simp at hql
  simp [h2,h5,h6,h7]
  rcases yw R i with ⟨rfl,rfl,rfl⟩|⟨a,rest',nx',d',hcat,i',R'⟩
  ·have hlt:¬don.length<q.length:=by simp at hql;omega
   simp [h2,h5,h6,h7,hlt]
   exact ⟨_,rfl,Ow.new (k:=2) rfl (Q8 _).symm (by simp) rfl,by simp⟩
  ·have hlc:=congrArg List.length hcat
   simp at hlc
   have hlt:don.length<q.length:=by omega
   have hget:q[don.length]? = some a:=by rw [hqe,hcat];simp
   have hgv:q[don.length]=a:=by have:=List.getElem?_eq_getElem hlt;rw [hget] at this;exact (Option.some.inj this).symm
   obtain ⟨ha,hda⟩:=i'.fr a (by simp)
   have ha1:=(Yn ha)
   have h1d:=i'.one
   have hsd:=i'.sum
   simp [h2,h5,h6,h7,hlt,hgv]
   refine Qh (fun n t H'=>∃(x:List Int×List Int) (p g:Nat) (G:Heap),n=4-p∧p≤4∧x=(List.range p).foldl (vst w h b a d') (s,q)∧BExt w h d' (s,q) x∧
    t 2=.pointer (some ⟨H.length,0,some 0⟩)∧t 5=.slice (some ⟨H.length+2,0,some 0⟩) x.1.length 0∧t 6=.slice (some ⟨H.length+3,0,some g⟩) x.2.length 0∧t 7=.int .i64 don.length∧
    t 8=.int .i64 a∧t 9=.int .i64 p∧
    H'=H++⟨[.int .i64 w,.int .i64 h,v],0,28⟩::⟨[.int .i64 (-1)],0,3⟩::⟨x.1.map (.int .i64),0,3⟩::⟨x.2.map (.int .i64),g,3⟩::G) ?_
    (n:=4) ⟨(s,q),0,g,G,by simp,by simp,by simp,BExt.rfl',by simp [h2],by simp [h5],by simp [h6],by simp [h7],by simp,by simp,by simp⟩
   clear h2 h5 h6 h7
   rintro n t H' ⟨x,p,g,G,rfl,hp,hx,E,h2,h5,h6,h7,h8,h9,rfl⟩ ih2
   have hlen:(x.1.length:Int)=cnt w h:=by rw [E.len];exact i.len
   have hxq:x.2.length≤16:=by have:=E.sum;simp at this;omega
   simp [h2,h5,h6,h7,h8,h9]
   refine Qc ?_ ?_<;>intro hp4
   ·have hp4':p<4:=by omega
    have e1:IntKind.i64.wrap (4*a)=4*a:=w64 (by omega) (by omega)
    have e2:IntKind.i64.wrap (4*a+p)=4*a+p:=w64 (by omega) (by omega)
    have nxt:=fun (x':List Int×List Int) (t':Env) (g':Nat) (G' H':Heap) (hH:H'=H++⟨[.int .i64 w,.int .i64 h,v],0,28⟩::⟨[.int .i64 (-1)],0,3⟩::⟨x'.1.map (.int .i64),0,3⟩::⟨x'.2.map (.int .i64),g',3⟩::G') (hx':x'=vst w h b a d' x p) (k2:t' 2=.pointer (some ⟨H.length,0,some 0⟩)) (k5:t' 5=.slice (some ⟨H.length+2,0,some 0⟩) x'.1.length 0) (k6:t' 6=.slice (some ⟨H.length+3,0,some g'⟩) x'.2.length 0) (k7:t' 7=.int .i64 don.length) (k8:t' 8=.int .i64 a) (k9:t' 9=.int .i64 (p+1:Nat))=>
     ih2 (4-(p+1)) t' H'
      ⟨x',p+1,g',G',rfl,by omega,by rw [List.range_succ,List.foldl_append,← hx];exact hx',by rw [hx'];exact E.trans (by omega) (Kv hp4' (by omega)),k2,k5,k6,k7,k8,k9,hH⟩ (by omega)
    have w9:IntKind.i64.wrap ((p:Int)+1)=((p+1:Nat):Int):=by rw [w64 (by omega) (by omega)];omega
    simp [h2,h5,h6,h7,h8,h9,one,e1,e2,Eo _ _ _ _ _ (hI.app _) hl,hm]
    refine Qc ?_ ?_<;>intro hlk
    ·obtain ⟨_,hn,he⟩:=Wi hp4' hlk
     have hend:=fun F L=>(congrArg (fun z=>some (Value.int .i64 z,H++L)) he)▸Sn (frz:=F) w h v b (4*a+(p:Int)) (hI.app L) hlk.1.1
     have hn1:=hn.1
     have hn2:next w h a p<(x.1.length:Int):=by have:=hn.2;omega
     have hg:=rowget (xs:=x.1) hn1 hn2
     have hr1:=jf hn1 hn2
     have hra:rd x.1 a=d'-1:=by rw [E.old a ha.1 (show 0≤rd s a by omega)];exact hda
     have ha2:a<(x.1.length:Int):=by have:=ha.2;omega
     have hr2:=jf ha.1 ha2
     simp [h2,h5,h6,h7,h8,h9,one,e1,e2,hend,hn1,hn2,hr1]
     refine Qc ?_ ?_<;>intro hz
     ·have hset:=rowset (c:=d') hn1 hn2
      have ev:vst w h b a d' x p=(x.1.set (next w h a p).toNat d',x.2++[next w h a p]):=by unfold vst;rw [if_pos ⟨hlk,hz⟩]
      have wd:IntKind.i64.wrap d'=d':=w64 (by omega) (by omega)
      have ha0:=ha.1
      simp [h2,h5,h6,h7,h8,h9,hn1,hn2,ha0,ha2,hr2,hra,wd]
      refine X4 (by omega) (X4 (by omega) ?_)
      rw [hset]
      refine nxt (x.1.set (next w h a p).toNat d',x.2++[next w h a p]) _ (g+1) (G++[⟨[.int .i64 (next w h a p)],0,3⟩]) _ (by simp) ev.symm (by simp [h2]) (by simp [h5]) (by simp) (by simp [h7]) (by simp [h8]) (by simp [w9])
     ·simp [h2,h5,h6,h7,h8,h9,hz]
      have ev:x=vst w h b a d' x p:=by unfold vst;rw [if_neg (fun hh=>hz hh.2)]
      refine nxt x _ g G _ (by simp) ev (by simp [h2]) (by simp [h5]) (by simp [h6]) (by simp [h7]) (by simp [h8]) (by simp [w9])
    ·simp [h2,h5,h6,h7,h8,h9,hlk]
     have ev:x=vst w h b a d' x p:=by unfold vst;rw [if_neg (fun hh=>hlk hh.1)]
     refine nxt x _ g G _ (by simp) ev (by simp [h2]) (by simp [h5]) (by simp [h6]) (by simp [h7]) (by simp [h8]) (by simp [w9])
   ·have:p=4:=by omega
    subst this
    have e2:x=((vis w h b a d' (s,nx')).1,(don++a::rest')++(vis w h b a d' (s,nx')).2):=by
     rw [hx,hqe,hcat];exact B5 (don++a::rest') s nx' |> fun hh=>by simpa [vis] using hh
    simp [h2,h5,h6,h7,h8,h9]
    have hs1:=(Pv (w:=w) (h:=h) (b:=b) (a:=a) (d:=d') (by omega) (s,nx')).sum
    simp only at hs1
    refine ih ((cnt w h).toNat-(don++[a]).length) _ _ ⟨(vis w h b a d' (s,nx')).1,don++[a],rest',(vis w h b a d' (s,nx')).2,x.2,d',g,G,rfl,?_,by simp [h2],?_,by simp [h6],?_,?_,R',i'.node,?_⟩ (by simp;omega)
    ·rw [e2];simp
    ·simp [h5,e2]
    ·simp;rw [w64 (by omega) (by omega)]
    ·rw [e2]
    ·simp;omega
 ·rw [Z4 hR]
  simp
  exact ⟨_,rfl,.inl ⟨rfl,rfl⟩,by simp⟩
def pF (w h:Int) (b d:List Int) (i:Int):Nat→Int
 | 0=>-1
 | j+1=>if toRoot w h b d i (3-j) then next w h i (3-j:Nat) else pF w h b d i j
theorem Qdq {w h:Int} {b d:List Int} {i:Int} (h0:rd d i>0):pF w h b d i 4=par w h b d i:=by
 simp only [par,pF,if_pos h0]
theorem Mo (w h:Int) (v:Value) (b:List Int) (root:Int) (hI:IsI H v b) (hl:b.length≤1073741824) :
 wp (vcall C frz 107 [.agg #[.int .i64 w,.int .i64 h,v],.int .i64 root] H) (Made Fl.int 3 H (parents w h b root)):=by
 rw [Qb (fn:=Tryz.f107) Tryz.func107 rfl (by kernel_rfl) rfl]
 have one:=And.intro hI.one' hI.cells
 have hc:=Qf w h
 simp [one]
 refine Qd (Ug w h v b root (hI.app _) hl) ?_
 rintro vd _ ⟨L,rfl,od,nd⟩
 have od:=od.rd.isI
 simp only [List.append_assoc,List.singleton_append] at od
 have hdl:=V9 w h b root
 have dm:=fun v (hv:v∈depths w h b root)=>Ez hv
 have dv:(depths w h b root)≠[]→rootOk w h b root∧((depths w h b root).length:Int)=cnt w h:=fun hne=>by
  by_cases hR:rootOk w h b root
  ·exact ⟨hR,(Wg hR).1⟩
  ·exact absurd (Z4 hR) hne
 unfold parents pars
 generalize depths w h b root=D at *
 have fD:=fun L'=>od.app L'
 simp only [List.append_assoc,List.cons_append,List.nil_append] at fD
 have lD:=fun L'=>(fD L').len (P:=Tryz.prog) (ty:=26) (by simp)
 simp [lD]
 refine Qh (fun n t H'=>∃(i g:Nat) (G:Heap) (o:List Int),n=D.length-i∧i≤D.length∧o=(List.range i).map (fun i:Nat=>par w h b D (i:Int))∧
  t 2=.pointer (some ⟨H.length,0,some 0⟩)∧t 5=vd∧t 6=.slice (some ⟨H.length+(L.length+1),0,some g⟩) o.length 0∧t 16=vd∧t 17=.int .i64 D.length∧t 18=.int .i64 i∧
  H'=H++⟨[.int .i64 w,.int .i64 h,v],0,28⟩::(L++⟨o.map (.int .i64),g,3⟩::G)) ?_ (n:=D.length) ⟨0,0,[],[],by simp⟩
 rintro n t H' ⟨i,g,G,o,rfl,hi,ho,h2,h5,h6,h16,h17,h18,rfl⟩ ih
 simp [h2,h5,h6,h16,h17,h18]
 have hol:o.length=i:=by rw [ho];simp
 refine Qc ?_ ?_<;>intro hid
 ·obtain ⟨⟨hm,hr⟩,hlc⟩:=dv (fun hh=>by rw [hh] at hid;simp at hid)
  have hid':i<D.length:=by omega
  have xD:=fun L'=>(fD L').idx (P:=Tryz.prog) (ty:=26) (e:=3) (by simp) (i:=(i:Int)) (by omega) (by omega)
  have rD:=fun L'=>((fD L').load (P:=Tryz.prog) (e:=3) (by simp) hid').trans (by rw [Q5 _ _ hid',← Zi hid'])
  simp only [Int.toNat_natCast] at xD
  have hd:=dm _ (Vi (s:=D) (k:=(i:Int)) (by omega) (by omega))
  have w3:IntKind.i64.wrap (rd D i-1)=rd D i-1:=w64 (by omega) (by omega)
  simp [h2,h5,h6,h16,h17,h18,xD,rD]
  refine Qh (fun n t H'=>∃(j:Nat),n=4-j∧j≤4∧(rd D i>0∨j=0)∧
   t 2=.pointer (some ⟨H.length,0,some 0⟩)∧t 5=vd∧t 6=.slice (some ⟨H.length+(L.length+1),0,some g⟩) o.length 0∧t 16=vd∧t 17=.int .i64 D.length∧t 18=.int .i64 i∧
   t 7=.int .i64 i∧t 8=.int .i64 (rd D i)∧t 9=.int .i64 (pF w h b D i j)∧t 10=.int .i64 (3-j:Int)∧
   H'=H++⟨[.int .i64 w,.int .i64 h,v],0,28⟩::(L++⟨o.map (.int .i64),g,3⟩::G)) ?_ (n:=4) ⟨0,by simp [h2,h5,h6,h16,h17,h18,pF]⟩
  clear h2 h5 h6 h16 h17 h18
  rintro n t H' ⟨j,rfl,hj,hpos,h2,h5,h6,h16,h17,h18,h7,h8,h9,h10,rfl⟩ ih2
  simp [h2,h5,h6,h16,h17,h18,h7,h8,h9,h10]
  refine Qz ?_ ?_<;>intro hj3
  ·have hj4:j<4:=by omega
   simp [h2,h5,h6,h16,h17,h18,h7,h8,h9,h10,hj3]
   refine Qc ?_ ?_<;>intro hp0
   ·have ep:(3-(j:Int))=((3-j:Nat):Int):=by omega
    have hp4:3-j<4:=by omega
    have e1:IntKind.i64.wrap (4*(i:Int))=4*i:=w64 (by omega) (by omega)
    have e2:IntKind.i64.wrap (4*(i:Int)+(3-j:Nat))=4*i+(3-j:Nat):=w64 (by omega) (by omega)
    have nxt:=fun (t':Env) (k2:t' 2=.pointer (some ⟨H.length,0,some 0⟩)) (k5:t' 5=vd) (k6:t' 6=.slice (some ⟨H.length+(L.length+1),0,some g⟩) o.length 0) (k16:t' 16=vd) (k17:t' 17=.int .i64 D.length) (k18:t' 18=.int .i64 i) (k7:t' 7=.int .i64 i) (k8:t' 8=.int .i64 (rd D i)) (k9:t' 9=.int .i64 (pF w h b D i (j+1))) (k10:t' 10=.int .i64 (IntKind.i64.wrap (((3-j:Nat):Int)-1)))=>
     ih2 (4-(j+1)) t' (H++⟨[.int .i64 w,.int .i64 h,v],0,28⟩::(L++⟨o.map (.int .i64),g,3⟩::G)) ⟨j+1,rfl,by omega,.inl hp0,k2,k5,k6,k16,k17,k18,k7,k8,k9,by rw [k10,w64 (by omega) (by omega)];congr 1;omega,rfl⟩ (by omega)
    rw [ep] at h10
    simp [h2,h5,h6,h16,h17,h18,h7,h8,h9,h10,e1,e2,one,Eo _ _ _ _ _ (hI.app _) hl,hm]
    refine Qz ?_ ?_<;>intro hlk
    ·obtain ⟨_,hn,he⟩:=Wi hp4 hlk
     have hend:=fun F L=>(congrArg (fun z=>some (Value.int .i64 z,H++L)) he)▸Sn (frz:=F) w h v b (4*(i:Int)+(3-j:Nat)) (hI.app L) hlk.1.1
     have xE:=fun L'=>(fD L').idx (P:=Tryz.prog) (ty:=26) (e:=3) (by simp) hn.1 (by have:=hn.2;omega)
     have rE:=fun L'=>((fD L').load (P:=Tryz.prog) (e:=3) (by simp) (j:=(next w h i (3-j:Nat)).toNat) (by have:=hn.1;have:=hn.2;omega))
     have rE':D.getD (next w h i (3-j:Nat)).toNat 0=rd D (next w h i (3-j:Nat)):=rfl
     rw [rE'] at rE
     simp [h2,h5,h6,h16,h17,h18,h7,h8,h9,h10,e1,e2,one,hlk,hend,xE,rE,w3]
     refine Qc ?_ ?_<;>intro hdd
     ·simp [h2,h5,h6,h16,h17,h18,h7,h8,h9,h10,e1,e2,one,hlk,hend]
      refine nxt _ (by simp [h2]) (by simp [h5]) (by simp [h6]) (by simp [h16]) (by simp [h17]) (by simp [h18]) (by simp [h7]) (by simp [h8]) ?_ (by simp [h10])
      simp [pF,toRoot,hlk,hdd]
     ·simp [h2,h5,h6,h16,h17,h18,h7,h8,h9,h10,hdd]
      refine nxt _ (by simp [h2]) (by simp [h5]) (by simp [h6]) (by simp [h16]) (by simp [h17]) (by simp [h18]) (by simp [h7]) (by simp [h8]) ?_ (by simp [h10])
      simp [pF,toRoot,hdd,h9]
    ·simp [h2,h5,h6,h16,h17,h18,h7,h8,h9,h10,hlk]
     refine nxt _ (by simp [h2]) (by simp [h5]) (by simp [h6]) (by simp [h16]) (by simp [h17]) (by simp [h18]) (by simp [h7]) (by simp [h8]) ?_ (by simp [h10])
     simp [pF,toRoot,hlk,h9]
   ·have hj0:j=0:=by omega
    subst hj0
    have he:pF w h b D i 0=par w h b D i:=by unfold par;rw [if_neg hp0];rfl
    rw [he] at h9
    simp [h2,h5,h6,h16,h17,h18,h7,h8,h9,h10,hp0]
    refine X4 (by omega) ?_
    refine ih (D.length-(i+1)) _ _ ⟨i+1,g+1,G++[⟨[.int .i64 (par w h b D i)],0,3⟩],o++[par w h b D i],rfl,by omega,by rw [List.range_succ,List.map_append,← ho];rfl,by simp [h2],by simp [h5],by simp,by simp [h16],by simp [h17],?_,by simp⟩ (by omega)
    simp;rw [w64 (by omega) (by omega)]
  ·have hj4:j=4:=by omega
   subst hj4
   have he:pF w h b D i 4=par w h b D i:=Qdq (by omega)
   rw [he] at h9
   simp [h2,h5,h6,h16,h17,h18,h7,h8,h9,h10]
   refine X4 (by omega) ?_
   refine ih (D.length-(i+1)) _ _ ⟨i+1,g+1,G++[⟨[.int .i64 (par w h b D i)],0,3⟩],o++[par w h b D i],rfl,by omega,by rw [List.range_succ,List.map_append,← ho];rfl,by simp [h2],by simp [h5],by simp,by simp [h16],by simp [h17],?_,by simp⟩ (by omega)
   simp;rw [w64 (by omega) (by omega)]
 ·have:i=D.length:=by omega
  subst this
  simp [h2,h5,h6,h16,h17,h18]
  rw [← ho]
  exact ⟨_,rfl,Ow.new (k:=L.length+1) (by simp) (Q8 _).symm (by simp) rfl,by simp⟩
theorem Qam (a b:Int):(if a<b then b else a)=max a b:=by omega
theorem Vg {xs:List Int} {a:Int} {i:Nat} (h:i<xs.length):(xs.take (i+1)).foldl max a=max ((xs.take i).foldl max a) xs[i]:=by
 rw [List.take_succ_eq_append_getElem h,List.foldl_append];rfl
theorem Qg6 (v:Value) (xs:List Int) (hI:IsI H v xs) (h0:0<xs.length) (hl:xs.length≤1073741824) (hm:∀x∈xs,-1≤x) :
 vcall C frz 152 [v] H=some (.int .i64 (xs.foldl max (-1)),H):=by
 rw [Qb (fn:=Tryz.f152) Tryz.func152 rfl (by kernel_rfl) rfl]
 have q0:=hI.idx (P:=Tryz.prog) (ty:=26) (e:=3) (by simp) (i:=0) (by omega) (by omega)
 have r0:=(hI.load (P:=Tryz.prog) (e:=3) (by simp) h0).trans (by rw [Q5 _ _ h0])
 have n0:¬(xs.length:Int)<1:=by omega
 have e0:xs≠[]:=fun hh=>by rw [hh] at h0;simp at h0
 simp [hI.len,e0,n0,q0,r0]
 refine Xy (fun n t H'=>∃i:Nat,n=xs.length-i∧1≤i∧i≤xs.length∧t 0=v∧t 3=.int .i64 ((xs.take i).foldl max (-1))∧t 4=.int .i64 i∧H'=H) ?_ (n:=xs.length-1) ⟨1,rfl,by omega,by omega,by simp,?_,by simp,rfl⟩
 ·rintro n t H' ⟨i,rfl,h1,hi,k0,k3,k4,rfl⟩ ih
  simp [k0,k3,k4,hI.len]
  refine Qq _ ?_ ?_<;>intro h5
  ·have q1:=hI.idx (P:=Tryz.prog) (ty:=26) (e:=3) (by simp) (i:=(i:Int)) (by omega) (by omega)
   have r1:=(hI.load (P:=Tryz.prog) (e:=3) (by simp) h5).trans (by rw [Q5 _ _ h5])
   simp only [Int.toNat_natCast] at q1
   simp [k0,k3,k4,q1,r1]
   refine ih (xs.length-(i+1)) _ _ ⟨i+1,rfl,by omega,by omega,by simp [k0],?_,?_,rfl⟩ (by omega)
   ·simp [Vg h5,Qam]
   ·simp;rw [w64 (by omega) (by omega)]
  ·have:i=xs.length:=by omega
   subst this
   simp [k0,k3,k4]
 ·have:=hm _ (List.getElem_mem h0)
  rw [show (1:Nat)=0+1 from rfl,Vg h0]
  simp;omega
theorem Ms (w h:Int) (v:Value) (b:List Int) (root:Int) (hI:IsI H v b) (hl:b.length≤1073741824) :
 vcall C frz 110 [.agg #[.int .i64 w,.int .i64 h,v],.int .i64 root] H=some (.int .i64 (depthOf w h b root),H):=by
 refine wp.exact (by simp) ?_ rfl
 rw [Qb (fn:=Tryz.f110) Tryz.func110 rfl (by kernel_rfl) rfl]
 have one:=And.intro hI.one' hI.cells
 simp [one,Gj _ _ _ _ _ (hI.app _) hl,-Bool.decide_and]
 refine Qc ?_ ?_<;>intro hR
 ·simp [one]
  refine Qd (Ug w h v b root (hI.app _) hl) ?_
  rintro vd _ ⟨L,rfl,od,nd⟩
  have hc:=Qf w h
  have i:=Wg hR
  have hn:=Yn hR.2
  have hp:=hR.2.2
  have hq:=hR.2.1
  have od:=od.rd.isI
  simp only [List.append_assoc,List.singleton_append] at od
  simp [Qg6 _ _ od (by omega) (by omega) (fun x hx=>(i.2 x hx).1),depthOf]
 ·have hd:depths w h b root=[]:=Z4 hR
  simp [depthOf,hd]
theorem Yf (w h:Int) (v:Value) (b:List Int) (hI:IsI H v b) (hl:b.length≤1073741824) :
 vcall C frz 106 [.agg #[.int .i64 w,.int .i64 h,v]] H=some (.bool (decide (conn w h b)),H):=by
 refine wp.exact (by simp) ?_ rfl
 rw [Qb (fn:=Tryz.f106) Tryz.func106 rfl (by kernel_rfl) rfl]
 have one:=And.intro hI.one' hI.cells
 simp [one,Zz _ _ _ _ (hI.app _) hl]
 refine Qz ?_ ?_<;>intro hm
 ·simp [one,hm]
  refine Qd (Ug w h v b 0 (hI.app _) hl) ?_
  rintro vd _ ⟨L,rfl,od,nd⟩
  have hl16:=V9 w h b 0
  have od:=od.rd.isI
  simp only [List.append_assoc,List.singleton_append] at od
  simp [hm,Y7 _ _ _ od (by omega),conn]
 ·simp [conn,hm]
theorem Dc (w h:Int) (v:Value) (b:List Int) (hI:IsI H v b) (hl:b.length≤1073741824) :
 vcall C frz 73 [.agg #[.int .i64 w,.int .i64 h,v]] H=some (.int .i64 (bestRoot w h b),H):=by
 refine wp.exact (by simp) ?_ rfl
 rw [Qb (fn:=Tryz.f73) Tryz.func73 rfl (by kernel_rfl) rfl]
 have one:=And.intro hI.one' hI.cells
 have hc:=Qf w h
 simp [one,Yf _ _ _ _ (hI.app _) hl]
 refine Qc ?_ ?_<;>intro hcn
 ·simp [one,Wb]
  refine Qh (fun n t H'=>∃i:Nat,n=(cnt w h).toNat-i∧i≤(cnt w h).toNat∧t 1=.pointer (some ⟨H.length,0,some 0⟩)∧t 3=.int .i64 ((List.range i).foldl (better w h b) 0)∧t 10=.int .i64 (cnt w h)∧t 11=.int .i64 i∧H'=H++[⟨[.int .i64 w,.int .i64 h,v],0,28⟩]) ?_ (n:=(cnt w h).toNat) ⟨0,by simp⟩
  rintro n t H' ⟨i,rfl,hi,k1,k3,k10,k11,rfl⟩ ih
  simp [k1,k3,k10,k11]
  refine Qc ?_ ?_<;>intro h5
  ·simp [k1,k3,k10,k11]
   rw [Qe (h:=by kernel_rfl)]
   simp [k1,k3,k10,k11,one,Ms _ _ _ _ _ (hI.app _) hl]
   have e:(List.range (i+1)).foldl (better w h b) 0=better w h b ((List.range i).foldl (better w h b) 0) i:=by rw [List.range_succ,List.foldl_append];rfl
   refine Qc ?_ ?_<;>intro h6
   ·simp [k1,k3,k10,k11,h6]
    refine ih ((cnt w h).toNat-(i+1)) _ _ ⟨i+1,rfl,by omega,by simp [k1],?_,by simp [k10],?_,rfl⟩ (by omega)
    ·simp [e,better,h6]
    ·simp;rw [w64 (by omega) (by omega)]
   ·simp [k1,k3,k10,k11,h6]
    refine ih ((cnt w h).toNat-(i+1)) _ _ ⟨i+1,rfl,by omega,by simp [k1],?_,by simp [k10],?_,rfl⟩ (by omega)
    ·simp [e,better,h6,k3]
    ·simp;rw [w64 (by omega) (by omega)]
  ·have:i=(cnt w h).toNat:=by omega
   subst this
   simp [k1,k3,k10,k11,bestRoot,hcn]
 ·simp [bestRoot,hcn]
end Go.Proofs.YtaldglgobgjeaaaGreat.V
set_option linter.all false
namespace Go.Proofs.YtaldglgobgjeaaaGreat.V
open Go Go.VM Go.Proofs
set_option maxRecDepth 10000
variable {frz:Nat} {H H':Heap} {vb:Value} {code:List Int} {r:Nat}
theorem iand255 (a:Int):0≤iand .i64 a 255∧iand .i64 a 255<256:=by
 unfold iand
 have h1:(BitVec.ofInt IntKind.i64.bits a&&& BitVec.ofInt IntKind.i64.bits 255).toNat≤255:=by
  rw [BitVec.toNat_and]
  exact Nat.le_trans Nat.and_le_right (by decide)
 rw [w64 (by omega) (by omega)]
 omega
def Cur (H:Heap) (r:Nat) (vb:Value) (code:List Int):Prop:=
 ∃(i:Nat) (h:Int),i≤code.length∧H[r]? = some ⟨[vb,.int .i64 i,.int .i64 h],0,101⟩∧Rd Fl.u8 H vb code∧r∉ids vb∧code.length≤1073741824
theorem Cur.lt (h:Cur H r vb code):r<H.length:=by obtain ⟨_,_,_,h2,_⟩:=h;exact Qs h2
theorem Cur.chg {is:List Nat} (h:Cur H r vb code) (c:Chg H H' is) (k:r∉is) (k':∀i∈ids vb,i∉is):Cur H' r vb code:=by
 obtain ⟨i,x,h1,h2,h3,h4,h5⟩:=h
 exact ⟨i,x,h1,Qa h2 c k,h3.chg c k',h4,h5⟩
theorem ku (vb:Value) (code:List Int) (hb:Rd Fl.u8 H vb code) (hl:code.length≤1073741824) :
 wp (vcall C frz 22 [vb] H) (fun u H'=>∃r,u=.pointer (some ⟨r,0,some 0⟩)∧H.length≤r∧Cur H' r vb code∧Chg H H' []):=by
 rw [Qb (fn:=Tryz.f22) Tryz.func22 rfl (by kernel_rfl) rfl]
 simp [hb.len]
 refine Ip (F:=?F) (k:=?k) (o:=?o) (Q:=?Q) (fun t H'=>H'=H∧t 0=vb∧∃h,t 3=.int .i64 h) ?main ?rest
 case main=>
  intro rest
  refine Qh (fun n t H'=>∃i:Nat,n=code.length-i∧i≤code.length∧t 0=vb∧t 4=.int .i64 i∧(∃h,t 3=.int .i64 h)∧H=H') ?_ (n:=code.length)
   ⟨0,rfl,by omega,by simp,by simp,⟨_,by simp;rfl⟩,rfl⟩
  rintro n t _ ⟨i,rfl,hi,t0,t4,⟨h,t3⟩,rfl⟩ ih
  simp [t0,t3,t4,hb.len]
  refine Qz ?_ ?_<;>intro g1
  ·simp [t0,t3,t4,g1]
   refine Qc ?_ ?_<;>intro g2
   ·have q1:=hb.idx (P:=Tryz.prog) (ty:=22) (e:=5) (by simp) (i:=(i:Int)) (by omega) (by omega)
    have r1:=hb.cell1 (P:=Tryz.prog) (e:=5) rfl (by simp) g1
    simp at q1 r1
    simp [t0,t3,t4,q1,r1]
    refine ih (code.length-(i+1)) _ _ ⟨i+1,rfl,by omega,by simp [t0],?_,⟨_,by simp;rfl⟩,rfl⟩ (by omega)
    simp;rw [w64 (by omega) (by omega)]
   ·simp [t0,t3,t4,-U5]
    refine rest _ _ ?_
    exact ⟨rfl,by simp [t0],h,by simp [t3]⟩
  ·simp [t0,t3,t4,g1,-U5]
   refine rest _ _ ?_
   exact ⟨rfl,by simp [t0],h,by simp [t3]⟩
 case rest=>
  rintro t H' ⟨hH,t0,h,t3⟩
  rw [hH]
  simp [t0,t3,hb.one',hb.cells]
  exact ⟨⟨0,h,by omega,by simp,hb.app,fun hh=>by have:=hb.lt _ hh;omega,hl⟩,Chg.app _⟩
theorem Z7 (c:Cur H r vb code) (hf:frz≤r):wp (vcall C frz 56 [.pointer (some ⟨r,0,some 0⟩)] H) (fun u H'=>(∃x:Nat,u=.int .i64 x∧x<256)∧Chg H H' [r]∧Cur H' r vb code):=by
 obtain ⟨i,h,hi,hr,hb,hn,hl⟩:=c
 have lt:=Qs hr
 rw [Qb (fn:=Tryz.f56) Tryz.func56 rfl (by kernel_rfl) rfl]
 simp [vnil,VM.look,hr,hf]
 generalize IntKind.i64.wrap (IntKind.i64.wrap (h*6364136223846793005)+1442695040888963407)=h1
 have hr1:=Qi (r':=⟨[vb,.int .i64 i,.int .i64 h1],0,101⟩) hr
 have c1:Chg H (H.set r ⟨[vb,.int .i64 i,.int .i64 h1],0,101⟩) [r]:=Qg _ _
 generalize H.set r ⟨[vb,.int .i64 i,.int .i64 h1],0,101⟩=H1 at *
 have hb1:=hb.chg c1 (fun j hj hh=>by have:=List.mem_singleton.1 hh;subst this;exact hn hj)
 rw [Qe (h:=by kernel_rfl)]
 simp [vnil,VM.look,hr1]
 obtain ⟨x,hx⟩:∃x:Nat,iand .i64 (ixor .i64 (ishr .i64 h1 33) (ishr .i64 h1 45)) 255=x:=⟨_,(Int.toNat_of_nonneg (iand255 _).1).symm⟩
 have hx2:=(iand255 (ixor .i64 (ishr .i64 h1 33) (ishr .i64 h1 45))).2
 rw [hx] at hx2
 simp [hx]
 rw [Qe (h:=by kernel_rfl)]
 simp [vnil,VM.look,hr1,hb1.len]
 refine Qc ?_ ?_<;>intro g1
 ·have q1:=hb1.idx (P:=Tryz.prog) (ty:=22) (e:=5) (by simp) (i:=(i:Int)) (by omega) (by omega)
  have r1:=hb1.cell1 (P:=Tryz.prog) (e:=5) rfl (by simp) g1
  simp at q1 r1
  simp
  rw [Qe (h:=by kernel_rfl)]
  have e1:IntKind.i64.wrap ((i:Int)+1)=((i+1:Nat):Int):=by rw [w64 (by omega) (by omega)];omega
  simp only [vnil,VM.look,hr1,q1,r1]
  simp [vnil,VM.look,hr1,q1,r1,hf]
  generalize hz:IntKind.i64.wrap ((x:Int)+IntKind.i64.wrap code[i])=z
  obtain ⟨y,hy⟩:∃y:Nat,iand .i64 z 255=y:=⟨_,(Int.toNat_of_nonneg (iand255 _).1).symm⟩
  have hy2:=(iand255 z).2
  rw [hy] at hy2
  rw [hy,e1]
  have hr2:=Qi (r':=⟨[vb,.int .i64 (i+1:Nat),.int .i64 h1],0,101⟩) hr1
  have c2:Chg H1 (H1.set r ⟨[vb,.int .i64 (i+1:Nat),.int .i64 h1],0,101⟩) [r]:=Qg _ _
  exact ⟨⟨y,rfl,by omega⟩,c1.trans c2,i+1,h1,by omega,hr2,hb1.chg c2 (fun j hj hh=>by have:=List.mem_singleton.1 hh;subst this;exact hn hj),hn,hl⟩
 ·simp
  exact ⟨⟨x,rfl,by omega⟩,c1,i,h1,hi,hr1,hb1,hn,hl⟩
theorem G8 {x n:Nat} (hn:0<n):(x:Int).tmod (n:Int)=((x%n:Nat):Int):=by rw [Int.tmod_eq_emod_of_nonneg (by omega)];rfl
theorem Ws (c:Cur H r vb code) (hf:frz≤r) (n:Nat) (hn:0<n) (hn2:n<2147483648):wp (vcall C frz 25 [.pointer (some ⟨r,0,some 0⟩),.int .i64 n] H) (fun u H'=>(∃x:Nat,u=.int .i64 x∧x<n)∧Chg H H' [r]∧Cur H' r vb code):=by
 have hn0:¬(n:Int)≤0:=by omega
 have hn1:¬n=0:=by omega
 rw [Qb (fn:=Tryz.f25) Tryz.func25 rfl (by kernel_rfl) rfl]
 simp [hn0,hn1]
 refine Qc ?_ ?_<;>intro g1
 ·simp
  refine Qd (Z7 c hf) ?_
  rintro _ H1 ⟨⟨x,rfl,hx⟩,c1,d1⟩
  have hm:x%n<n:=Nat.mod_lt _ hn
  have e1:IntKind.i64.wrap ((x%n:Nat):Int)=((x%n:Nat):Int):=w64 (by omega) (by omega)
  simp [hn1,G8 hn,e1]
  exact ⟨⟨x%n,by simp,hm⟩,c1,d1⟩
 ·simp
  refine Qd (Z7 c hf) ?_
  rintro _ H1 ⟨⟨x,rfl,hx⟩,c1,d1⟩
  simp
  refine Qd (Z7 d1 hf) ?_
  rintro _ H2 ⟨⟨y,rfl,hy⟩,c2,d2⟩
  simp
  refine Qd (Z7 d2 hf) ?_
  rintro _ H3 ⟨⟨z,rfl,hz⟩,c3,d3⟩
  simp
  refine Qd (Z7 d3 hf) ?_
  rintro _ H4 ⟨⟨w,rfl,hw⟩,c4,d4⟩
  obtain ⟨q,hq⟩:∃q:Nat,q=x*16777216+y*65536+z*256+w:=⟨_,rfl⟩
  have e1:IntKind.i64.wrap (IntKind.i64.wrap (IntKind.i64.wrap (IntKind.i64.wrap ((x:Int)*16777216)+IntKind.i64.wrap ((y:Int)*65536))+IntKind.i64.wrap ((z:Int)*256))+(w:Int))=(q:Int):=by
   rw [w64 (x:=(x:Int)*16777216) (by omega) (by omega),w64 (x:=(y:Int)*65536) (by omega) (by omega),w64 (x:=(z:Int)*256) (by omega) (by omega),w64 (x:=(x:Int)*16777216+(y:Int)*65536) (by omega) (by omega),w64 (x:=(x:Int)*16777216+(y:Int)*65536+(z:Int)*256) (by omega) (by omega),w64 (by omega) (by omega)]
   omega
  have hm:q%n<n:=Nat.mod_lt _ hn
  have e2:IntKind.i64.wrap ((q%n:Nat):Int)=((q%n:Nat):Int):=w64 (by omega) (by omega)
  simp [hn1,e1,G8 hn,e2]
  exact ⟨⟨q%n,by simp,hm⟩,c1.trans (c2.trans (c3.trans c4)),d4⟩
theorem Sg (c:Cur H r vb code) (hf:frz≤r) (v:Value) (xs:List Int) (hI:IsI H v xs) (hv:r∉ids v) (h0:0<xs.length) (hl:xs.length<2147483648) :
 wp (vcall C frz 92 [.pointer (some ⟨r,0,some 0⟩),v] H) (fun u H'=>(∃x,u=.int .i64 x∧x∈xs)∧Chg H H' [r]∧Cur H' r vb code):=by
 rw [Qb (fn:=Tryz.f92) Tryz.func92 rfl (by kernel_rfl) rfl]
 simp [hI.len]
 refine Qd (Ws c hf xs.length h0 hl) ?_
 rintro _ H1 ⟨⟨x,rfl,hx⟩,c1,d1⟩
 have hI1:=(hI.rd.chg c1 (fun i hi hh=>by have:=List.mem_singleton.1 hh;subst this;exact hv hi)).isI
 have q1:=hI1.idx (P:=Tryz.prog) (ty:=26) (e:=3) (by simp) (i:=(x:Int)) (by omega) (by omega)
 have r1:=(hI1.load (P:=Tryz.prog) (e:=3) (by simp) hx).trans (by rw [Q5 _ _ hx])
 simp only [Int.toNat_natCast] at q1
 simp [q1,r1]
 exact ⟨c1,d1⟩
theorem yc (c:Cur H r vb code) (hf:frz≤r):wp (vcall C frz 54 [.pointer (some ⟨r,0,some 0⟩)] H) (fun u H'=>(∃w h,u=.agg #[.int .i64 w,.int .i64 h]∧okG w h)∧Chg H H' [r]∧Cur H' r vb code):=by
 have lt:=c.lt
 have nb:∀(L:Heap),Cur (H++L) r vb code:=fun L=>by
  obtain ⟨i,x,h1,h2,h3,h4,h5⟩:=c
  exact ⟨i,x,h1,Ql h2 L,h3.app,h4,h5⟩
 rw [Qb (fn:=Tryz.f54) Tryz.func54 rfl (by kernel_rfl) rfl]
 simp
 have i1:=IsI.at (H:=H) (L:=[⟨[.int .i64 0,.int .i64 0],0,25⟩,⟨[.int .i64 1,.int .i64 2,.int .i64 2,.int .i64 3,.int .i64 3,.int .i64 4],0,3⟩]) (k:=1) (xs:=[1,2,2,3,3,4]) rfl
 refine Qd (Sg (nb _) hf _ [1,2,2,3,3,4] i1 (by simp;omega) (by simp) (by simp)) ?_
 rintro _ H1 ⟨⟨w,rfl,hw⟩,c1,d1⟩
 have cH:Chg H H1 [r]:=(Chg.app [r]).trans c1
 have l0:=cH.1
 have b0:H1[H.length]? = some ⟨[.int .i64 0,.int .i64 0],0,25⟩:=Qa (by simp) c1 (by simp;omega)
 have lt1:=d1.lt
 have nb1:∀(L:Heap),Cur (H1++L) r vb code:=fun L=>by
  obtain ⟨i,x,h1,h2,h3,h4,h5⟩:=d1
  exact ⟨i,x,h1,Ql h2 L,h3.app,h4,h5⟩
 simp
 have i2:=IsI.at0 (H:=H1) (L:=[⟨[.int .i64 1,.int .i64 2,.int .i64 2,.int .i64 3,.int .i64 3,.int .i64 4],0,3⟩]) (xs:=[1,2,2,3,3,4]) rfl
 refine Qd (Sg (nb1 _) hf _ [1,2,2,3,3,4] i2 (by simp;omega) (by simp) (by simp)) ?_
 rintro _ H2 ⟨⟨h,rfl,hh⟩,c2,d2⟩
 have b2:H2[H.length]? = some ⟨[.int .i64 0,.int .i64 0],0,25⟩:=Qa (Ql b0 _) c2 (by simp;omega)
 have g2:=Qi (r':=⟨[.int .i64 w,.int .i64 h],0,25⟩) b2
 have hF:frz≤H.length:=by omega
 simp [VM.look,b2,g2,hF]
 have hwr:1≤w∧w≤4:=by simp at hw;omega
 have hhr:1≤h∧h≤4:=by simp at hh;omega
 have c3:Chg H2 (H2.set H.length ⟨[.int .i64 w,.int .i64 h],0,25⟩) [H.length]:=Qg _ _
 refine ⟨⟨w,h,⟨rfl,rfl⟩,hwr,hhr⟩,(cH.trans ((Chg.app [r]).trans c2)).trans' c3 (fun i hi=>.inr (by simp at hi;omega)),?_⟩
 obtain ⟨i,x,h1,h2,h3,h4,h5⟩:=d2
 have vlt:=fun i (hi:i∈ids vb)=>(show i<H.length by obtain ⟨_,_,_,_,k3,_⟩:=c;exact k3.lt i hi)
 exact ⟨i,x,h1,Qa h2 c3 (by simp;omega),h3.chg c3 (fun j hj hh=>by have:=vlt j hj;simp at hh;omega),h4,h5⟩
theorem Cur.app (c:Cur H r vb code) (L:Heap):Cur (H++L) r vb code:=by
 obtain ⟨i,x,h1,h2,h3,h4,h5⟩:=c
 exact ⟨i,x,h1,Ql h2 L,h3.app,h4,h5⟩
theorem Cur.vlt (c:Cur H r vb code):∀i∈ids vb,i<H.length:=by
 obtain ⟨_,_,_,_,k3,_⟩:=c;exact k3.lt
theorem Qgw (v:Value) (code:List Int) (hb:Rd Fl.u8 H v code):vcall C frz 5 [v] H=some (.bool (decide ((1048576:Int)<code.length)),H):=by
 rw [Qb (fn:=Tryz.f5) Tryz.func5 rfl (by kernel_rfl) rfl]
 simp [hb.len]
end Go.Proofs.YtaldglgobgjeaaaGreat.V
set_option linter.all false
namespace Go.Proofs.YtaldglgobgjeaaaGreat.V
open Go Go.VM Go.Proofs
theorem O3:∀xs:List Int,cellsOf Fl.u8 xs=xs.map (.int .u8)
 | []=>rfl
 | a::l=>by rw [Wa,O3 l];rfl
theorem At {H:Heap} {v:Value} {xs:List Int} (h:IsS (Kn.int .u8) H v xs):Rd Fl.u8 H v xs:=by
 rcases h with h|⟨id,off,r,h1,h2,h3,h4⟩
 ·exact .inl h
 ·have hs:(Kn.int .u8).sz=1:=rfl
  rw [hs] at h3 h4
  have e0:cellsOf Fl.u8 xs=xs.map (.int .u8):=O3 xs
  refine .inr ⟨id,off,r,h1,h2,?_,by simpa using h3⟩
  rw [e0]
  refine List.ext_getElem? fun j=>?_
  by_cases hj:j<xs.length
  ·have:=h4 j xs[j] (by simp [hj])
   have e:(r.cells.drop (off+j*1)).take 1=[.int .u8 xs[j]]:=this
   have e2:=congrArg (·[0]?) e
   simp at e2
   rw [List.getElem?_take,if_pos (by simpa using hj),List.getElem?_drop]
   simp [e2,hj]
  ·rw [List.getElem?_take,if_neg (by simpa using hj),List.getElem?_eq_none (by rw [List.length_map];omega)]
end Go.Proofs.YtaldglgobgjeaaaGreat.V
set_option linter.all false
namespace Go.Proofs.YtaldglgobgjeaaaGreat.V
open Go Go.VM Go.Proofs
set_option maxRecDepth 10000
variable {frz:Nat} {H:Heap}
def big:Nat:=1073741824
abbrev dIntS:Dt Value (List Int):=dFlat Fl.int 3 1073741824
def Made2 {V A:Type} (T:Dt V A) (H:Heap) (a:A) (ok:Bool) (r:Value) (H':Heap):Prop:=∃u,r=.tuple #[u,.bool ok]∧T.Made H a u H'
abbrev MeshD:=Int×Int×List Int
def dMesh:Dt Value MeshD where
 val v a:=.agg #[.int .i64 a.1,.int .i64 a.2.1,v]
 Ow H v a:=dIntS.Ow H v a.2.2
 ids:=VM.ids
 frame h k:=dIntS.frame h k
 lt h:=dIntS.lt h
theorem Xb (v:Value) (a:MeshD):dMesh.val v a=.agg #[.int .i64 a.1,.int .i64 a.2.1,v]:=rfl
theorem Yc {v:Value} {a:MeshD} (h:dMesh.Ow H v a):VM.one v=true∧v.cells=#[v]:=⟨h.1.rd.one',h.1.rd.cells⟩
theorem Z6 {v:Value} {a:List Int} (h:dIntS.Ow H v a):VM.one v=true∧v.cells=#[v]:=⟨h.1.rd.one',h.1.rd.cells⟩
def dTable:Dt Value (List Int) where
 val v _:=.agg #[v]
 Ow H v a:=dIntS.Ow H v a
 ids:=VM.ids
 frame h k:=dIntS.frame h k
 lt h:=dIntS.lt h
theorem W1 (v:Value) (a:List Int):dTable.val v a=.agg #[v]:=rfl
theorem W0 {v:Value} {a:List Int} (h:dTable.Ow H v a):VM.one v=true∧v.cells=#[v]:=⟨h.1.rd.one',h.1.rd.cells⟩
abbrev ClassesD:=List Int×List Int
def dClasses:Dt (Value×Value) ClassesD where
 val v _:=.agg #[v.1,v.2]
 Ow H v a:=dIntS.Ow H v.1 a.1∧dIntS.Ow H v.2 a.2
 ids v:=VM.ids v.1++VM.ids v.2
 frame h k:=⟨dIntS.frame h.1 fun i hi=>k i (List.mem_append.2 (.inl hi)),dIntS.frame h.2 fun i hi=>k i (List.mem_append.2 (.inr hi))⟩
 lt h i hi:=by
  rcases List.mem_append.1 hi with hi|hi
  ·exact dIntS.lt h.1 i hi
  ·exact dIntS.lt h.2 i hi
theorem Wp (v:Value×Value) (a:ClassesD):dClasses.val v a=.agg #[v.1,v.2]:=rfl
theorem Wo {v:Value×Value} {a:ClassesD} (h:dClasses.Ow H v a):(VM.one v.1=true∧v.1.cells=#[v.1])∧VM.one v.2=true∧v.2.cells=#[v.2]:=⟨⟨h.1.1.rd.one',h.1.1.rd.cells⟩,h.2.1.rd.one',h.2.1.rd.cells⟩
theorem Rv (ys:List Int):ones (cellsOf Fl.int ys)=true:=by
 rw [Q8];unfold ones
 rw [List.all_eq_true]
 intro x hx
 obtain ⟨y,_,rfl⟩:=List.mem_map.1 hx
 rfl
theorem Tf (w h:Int) (v:Value) (b:List Int) (hI:IsI H v b) (hl:b.length≤1073741824):wp (vcall C frz 29 [.agg #[.int .i64 w,.int .i64 h,v]] H) (dMesh.Made H (w,h,b)):=by
 rw [Qb (fn:=Tryz.f29) Tryz.func29 rfl (by kernel_rfl) rfl]
 have one:=And.intro hI.one' hI.cells
 simp [one]
 rw [T8 (h:=⟨by kernel_rfl,by kernel_rfl⟩)]
 simp [emps,empOp,empB,one,(hI.app _).src]
 by_cases h0:b=[]
 ·subst h0
  simp
  exact ⟨_,rfl,⟨.inl ⟨rfl,rfl⟩,by simp⟩,Chg.app _,by simp [dMesh],by simp [dMesh]⟩
 ·simp [h0,hl]
  exact ⟨_,rfl,⟨Ow.new (D:=Fl.int) (e:=3) (xs:=b) (k:=2) (by simp) (Q8 _).symm (by simp) rfl,hl⟩,Chg.app _,by simp [dMesh],Q0 (.slice (some ⟨H.length+2,0,some 0⟩) b.length 0)⟩
theorem Ar (w h:Int) (v:Value) (b:List Int) (hI:IsI H v b) (hl:b.length≤1073741824):wp (vcall C frz 118 [.agg #[.int .i64 w,.int .i64 h,v]] H) (dMesh.Made H (w,h,b)):=by
 rw [Qb (fn:=Tryz.f118) Tryz.func118 rfl (by kernel_rfl) rfl]
 have one:=And.intro hI.one' hI.cells
 simp [one]
 rw [T8 (h:=⟨by kernel_rfl,by kernel_rfl⟩)]
 simp [emps,empOp,empB,one,(hI.app _).src]
 by_cases h0:b=[]
 ·subst h0
  simp
  exact ⟨_,rfl,⟨.inl ⟨rfl,rfl⟩,by simp⟩,Chg.app _,by simp [dMesh],by simp [dMesh]⟩
 ·simp [h0,hl]
  exact ⟨_,rfl,⟨Ow.new (D:=Fl.int) (e:=3) (xs:=b) (k:=2) (by simp) (Q8 _).symm (by simp) rfl,hl⟩,Chg.app _,by simp [dMesh],Q0 (.slice (some ⟨H.length+2,0,some 0⟩) b.length 0)⟩
theorem Vk (v:Value) (xs:List Int) (hI:IsI H v xs) (hl:xs.length≤1073741824):wp (vcall C frz 60 [.agg #[v]] H) (dTable.Made H xs):=by
 rw [Qb (fn:=Tryz.f60) Tryz.func60 rfl (by kernel_rfl) rfl]
 have one:=And.intro hI.one' hI.cells
 simp [one,(hI.app _).src]
 by_cases h0:xs=[]
 ·subst h0
  simp
  exact ⟨_,rfl,⟨Ow.new (D:=Fl.int) (e:=3) (xs:=[]) (k:=2) (by simp) rfl rfl rfl,by simp⟩,Chg.app _,by simp [dTable],Q0 (.slice (some ⟨H.length+2,0,some 0⟩) 0 0)⟩
 ·simp [h0,hl]
  exact ⟨_,rfl,⟨Ow.new (D:=Fl.int) (e:=3) (xs:=xs) (k:=2) (by simp) (Q8 _).symm (by simp) rfl,hl⟩,Chg.app _,by simp [dTable],Q0 (.slice (some ⟨H.length+2,0,some 1⟩) xs.length 0)⟩
theorem Le (v:Value) (xs:List Int) (hI:IsI H v xs) (hl:xs.length≤1073741824):wp (vcall C frz 163 [.agg #[v]] H) (dTable.Made H xs):=by
 rw [Qb (fn:=Tryz.f163) Tryz.func163 rfl (by kernel_rfl) rfl]
 have one:=And.intro hI.one' hI.cells
 simp [one,(hI.app _).src]
 by_cases h0:xs=[]
 ·subst h0
  simp
  exact ⟨_,rfl,⟨Ow.new (D:=Fl.int) (e:=3) (xs:=[]) (k:=2) (by simp) rfl rfl rfl,by simp⟩,Chg.app _,by simp [dTable],Q0 (.slice (some ⟨H.length+2,0,some 0⟩) 0 0)⟩
 ·simp [h0,hl]
  exact ⟨_,rfl,⟨Ow.new (D:=Fl.int) (e:=3) (xs:=xs) (k:=2) (by simp) (Q8 _).symm (by simp) rfl,hl⟩,Chg.app _,by simp [dTable],Q0 (.slice (some ⟨H.length+2,0,some 1⟩) xs.length 0)⟩
abbrev FlitD:=Int×Int×Int×Bool×Bool
def flF:Fl FlitD:=⟨5,fun a=>[.int .i64 a.1,.int .i64 a.2.1,.int .i64 a.2.2.1,.bool a.2.2.2.1,.bool a.2.2.2.2],fun _=>rfl⟩
@[simp] theorem Ox:flF.n=5:=rfl
theorem Xu (a:FlitD):flF.f a=[.int .i64 a.1,.int .i64 a.2.1,.int .i64 a.2.2.1,.bool a.2.2.2.1,.bool a.2.2.2.2]:=rfl
theorem T6 (xs:List FlitD):ones (cellsOf flF xs)=true:=by
 induction xs with
 | nil=>rfl
 | cons a l ih=>rw [Wa];simp [ih,Xu]
theorem Xh {P:Program} {H:Heap} {s:TypeId} {f:Nat} (a:Addr):vfieldAddr P H s f (.pointer (some a))=match VM.look H a with
 | some _=>(match finfo P s f with|some (o,_,_)=>some (.pointer (some ⟨a.block,a.off+o,a.spot⟩))|none=>none)
 | none=>none:=rfl
abbrev SSD:=List (List FlitD)
abbrev SSV:=Value×List Value
def dSS:Dt SSV SSD where
 val v _:=v.1
 Ow H v a:=OwL flF 144 109 H v.1 v.2 a∧a.length≤2097152∧∀xs∈a,xs.length≤67108864
 ids v:=idsL v.1 v.2
 frame h k:=⟨h.1.frame k,h.2⟩
 lt h:=h.1.lt
theorem gj {α:Type} (xss:List (List α)) {i:Nat} (h:i<xss.length):((xss.take (i+1)).map List.length).sum=((xss.take i).map List.length).sum+xss[i].length:=by
 rw [List.take_succ_eq_append_getElem h,List.map_append,List.sum_append];simp
theorem Ch {α:Type} (xss:List (List α)):∀xs∈xss,xs.length≤(xss.map List.length).sum:=by
 induction xss with
 | nil=>simp
 | cons a l ih=>
  intro xs hx;rcases List.mem_cons.1 hx with rfl|hx
  ·simp
  ·have:=ih xs hx;simp;omega
theorem Xx {α:Type} {D:Fl α} {v:Value} {hs:List Value} {xss:List (List α)} (h:RdL D H v hs xss) {ty e:TypeId} (he:eltp Tryz.prog ty=some (e,1)) (ht:tsz Tryz.prog e=some (false,1)) {j:Nat} (hj:j<xss.length) :
 ∃a,hs[j]? = some a∧vindexAddr Tryz.prog H ty v (.int .i64 j)=some (elp v j)∧vload Tryz.prog H e (elp v j)=some a∧Rd D H a xss[j]:=by
 have hj':j<hs.length:=by rw [h.2.1];exact hj
 have q1:=h.1.idx (P:=Tryz.prog) (ty:=ty) (e:=e) (by simpa using he) (i:=(j:Int)) (by omega) (by omega)
 have q2:=h.1.cell1 (P:=Tryz.prog) rfl ht hj'
 refine ⟨hs[j],by simp [hj'],by simpa using q1,by simpa using q2,h.2.2 j _ _ (by simp [hj']) (by simp [hj])⟩
theorem Zl {l m:List Nat} {n:Nat} (h1:l.Nodup) (h2:m.Nodup) (h3:∀i∈l,i<n) (h4:∀i∈m,n≤i):(l++m).Nodup:=
 List.nodup_append.2 ⟨h1,h2,fun a ha b hb e=>by have:=h3 a ha;have:=h4 b hb;omega⟩
def dAnd {V A W B:Type} (T:Dt V A) (U:Dt W B):Dt (V×W) (A×B) where
 val _ _:=undef
 Ow H v a:=T.Ow H v.1 a.1∧U.Ow H v.2 a.2
 ids v:=T.ids v.1++U.ids v.2
 frame h k:=⟨T.frame h.1 fun i hi=>k i (List.mem_append.2 (.inl hi)),U.frame h.2 fun i hi=>k i (List.mem_append.2 (.inr hi))⟩
 lt h i hi:=by
  rcases List.mem_append.1 hi with hi|hi
  ·exact T.lt h.1 i hi
  ·exact U.lt h.2 i hi
def dNone (A:Type):Dt Unit A where
 val _ _:=undef
 Ow _ _ _:=True
 ids _:=[]
 frame _ _:=trivial
 lt _ i hi:=by simp at hi
abbrev NetD:=MeshD×ClassesD×SSD×List Int×List Int×SSD×SSD×Int
noncomputable instance:DecidableEq NetD:=fun _ _=>Classical.propDecidable _
abbrev NetV:=Value×(Value×Value)×SSV×Value×Value×SSV×SSV×Unit
def dNet0:Dt NetV NetD:=dAnd dMesh (dAnd dClasses (dAnd dSS (dAnd dIntS (dAnd dIntS (dAnd dSS (dAnd dSS (dNone Int)))))))
def netVal (v:NetV) (a:NetD):Value:=
 .agg #[.int .i64 a.1.1,.int .i64 a.1.2.1,v.1,v.2.1.1,v.2.1.2,v.2.2.1.1,v.2.2.2.1,v.2.2.2.2.1,v.2.2.2.2.2.1.1,v.2.2.2.2.2.2.1.1,.int .i64 a.2.2.2.2.2.2.2]
def dNet:Dt NetV NetD:={ dNet0 with val:=netVal }
theorem Qk (v:NetV) (a:NetD):dNet.val v a =
 .agg #[.int .i64 a.1.1,.int .i64 a.1.2.1,v.1,v.2.1.1,v.2.1.2,v.2.2.1.1,v.2.2.2.1,v.2.2.2.2.1,v.2.2.2.2.2.1.1,v.2.2.2.2.2.2.1.1,.int .i64 a.2.2.2.2.2.2.2]:=rfl
theorem V4 {v:SSV} {a:SSD} (h:dSS.Ow H v a):VM.one v.1=true∧v.1.cells=#[v.1]:=⟨h.1.1.rd.one',h.1.1.rd.cells⟩
theorem Qn {v:NetV} {a:NetD} (h:dNet.Ow H v a):(VM.one v.1=true∧v.1.cells=#[v.1])∧(VM.one v.2.1.1=true∧v.2.1.1.cells=#[v.2.1.1])∧(VM.one v.2.1.2=true∧v.2.1.2.cells=#[v.2.1.2])∧(VM.one v.2.2.1.1=true∧v.2.2.1.1.cells=#[v.2.2.1.1])∧
 (VM.one v.2.2.2.1=true∧v.2.2.2.1.cells=#[v.2.2.2.1])∧(VM.one v.2.2.2.2.1=true∧v.2.2.2.2.1.cells=#[v.2.2.2.2.1])∧(VM.one v.2.2.2.2.2.1.1=true∧v.2.2.2.2.2.1.1.cells=#[v.2.2.2.2.2.1.1])∧(VM.one v.2.2.2.2.2.2.1.1=true∧v.2.2.2.2.2.2.1.1.cells=#[v.2.2.2.2.2.2.1.1]):=by
 obtain ⟨h1,h2,h3,h4,h5,h6,h7,_⟩:=h
 exact ⟨Yc h1,(Wo h2).1,(Wo h2).2,V4 h3,Z6 h4,Z6 h5,V4 h6,V4 h7⟩
theorem Sp:∀(hs:List Value),(hs.flatMap ids).Nodup→∀{i j:Nat} {a b:Value},i≠j→hs[i]? = some a→hs[j]? = some b→∀x∈ids a,x∉ids b
 | [],_,i,j,a,b,_,h1,_=>by simp at h1
 | c::hs,nd,i,j,a,b,hij,h1,h2=>by
  rw [List.flatMap_cons] at nd
  obtain ⟨n1,n2,n3⟩:=List.nodup_append.1 nd
  intro x hx hx'
  cases i with
  | zero=>
   cases j with
   | zero=>exact absurd rfl hij
   | succ j=>
    simp at h1 h2
    subst h1
    exact n3 x hx x (List.mem_flatMap.2 ⟨b,List.mem_of_getElem? h2,hx'⟩) rfl
  | succ i=>
   cases j with
   | zero=>
    simp at h1 h2
    subst h2
    exact n3 x hx' x (List.mem_flatMap.2 ⟨a,List.mem_of_getElem? h1,hx⟩) rfl
   | succ j=>exact Sp hs n2 (i:=i) (j:=j) (fun e=>hij (by omega)) (by simpa using h1) (by simpa using h2) x hx hx'
def ahead (a:SSD) (i:Nat):Nat:=((a.take i).map List.length).sum
theorem Nn (a:SSD) {i:Nat} (h:i<a.length):ahead a (i+1)=ahead a i+(a.getD i []).length:=by
 unfold ahead;rw [gj a h,List.getD_eq_getElem?_getD,List.getElem?_eq_getElem h];rfl
theorem N9 (a:SSD) (h2:∀xs∈a,xs.length≤67108864):∀i,i≤a.length→ahead a i≤67108864*i
 | 0,_=>by simp [ahead]
 | i+1,h=>by
  have:=N9 a h2 i (by omega)
  have hm:=h2 _ (List.getElem_mem (show i<a.length by omega))
  rw [Nn a (by omega),List.getD_eq_getElem?_getD,List.getElem?_eq_getElem (by omega)]
  simp;omega
theorem L7 (v:Value) (xs:List Int) (hI:Rd Fl.int H v xs) (hl:xs.length≤1073741824):∃r L,vappend Tryz.prog frz H 26 26 (.slice none 0 0) v=some (r,H++L)∧dIntS.Ow (H++L) r xs∧(∀i∈ids r,H.length≤i):=by
 have hs:=hI.src
 simp only [Fl.int_n] at hs
 by_cases h0:xs=[]
 ·subst h0
  refine ⟨.slice none 0 0,[],?_,⟨.inl ⟨rfl,rfl⟩,by simp⟩,by simp⟩
  simp [hs]
 ·refine ⟨.slice (some ⟨H.length,0,some 0⟩) xs.length 0,[⟨cellsOf Fl.int xs,0,3⟩],?_,⟨Ow.new0 rfl rfl (Rv xs) rfl,hl⟩,by simp⟩
  have:xs.length≠0:=fun hh=>h0 (List.length_eq_zero_iff.1 hh)
  simp [hs,h0,hl,Rv]
theorem U9 (v:Value) (hs:List Value) (xss:SSD) (hI:RdL flF H v hs xss) (hb:xss.length≤2097152) (hb2:∀xs∈xss,xs.length≤67108864) :
 wp (vcall C frz 61 [v] H) (dSS.Made H xss):=by
 rw [Qb (fn:=Tryz.f61) Tryz.func61 rfl (by kernel_rfl) rfl]
 have hl:=hI.2.1
 simp [(hI.app).1.len (P:=Tryz.prog) (ty:=36) (by simp),hl]
 refine Qh (fun n t H'=>∃(i:Nat) (out:Value) (gs:List Value),n=xss.length-i∧i≤xss.length∧t 7=v∧t 8=.int .i64 xss.length∧t 9=.int .i64 i∧t 3=out∧gs.length=i∧Ow Fl.val 109 H' out gs∧Chg H H' []∧
  (∀(j:Nat) (a:Value) (xs:List FlitD),gs[j]? = some a→xss[j]? = some xs→Ow flF 144 H' a xs)∧(∀x∈idsL out gs,H.length≤x∧x<H'.length)∧(idsL out gs).Nodup) ?_ (n:=xss.length)
  ⟨0,.slice (some ⟨H.length,0,some 0⟩) 0 0,[],rfl,by omega,by simp,by simp,by simp,by simp,rfl,Ow.new0 (D:=Fl.val) (xs:=[]) rfl rfl rfl rfl,Chg.app _,by simp,by simp [idsL],by simp [idsL]⟩
 rintro n t H' ⟨i,out,gs,rfl,hi,t7,t8,t9,t3,hgl,o,c,hin,hids,hnd⟩ ih
 have rd:=hI.chg c (by simp)
 have l0:=c.1
 simp [t7,t8,t9,t3,rd.1.len (P:=Tryz.prog) (ty:=36) (by simp),hl]
 refine Qc ?_ ?_<;>intro h
 ·have h':i<xss.length:=by omega
  obtain ⟨u,a1,a2,a3,a4⟩:=Xx rd (ty:=36) (e:=109) (by simp) (by simp) h'
  have hm:=hb2 _ (List.getElem_mem h')
  have a2':vindexAddr Tryz.prog (H'++[⟨[],0,144⟩]) 36 v (.int .i64 i)=some (elp v i):=by
   obtain ⟨_,_,q,_,_⟩:=Xx (rd.app (L:=[⟨[],0,144⟩])) (ty:=36) (e:=109) (by simp) (by simp) h';exact q
  have a3':vload Tryz.prog (H'++[⟨[],0,144⟩]) 109 (elp v i)=some u:=by
   obtain ⟨u',q1,_,q,_⟩:=Xx (rd.app (L:=[⟨[],0,144⟩])) (ty:=36) (e:=109) (by simp) (by simp) h'
   rw [a1] at q1;cases q1;exact q
  have o0:Ow flF 144 (H'++[⟨[],0,144⟩]) (.slice (some ⟨H'.length,0,some 0⟩) 0 0) []:=Ow.new0 (D:=flF) (xs:=[]) rfl rfl rfl rfl
  obtain ⟨r,H2,hap,or_,c1,n1⟩:=o0.append (P:=Tryz.prog) (frz:=H.length) (ty:=109) (a4.app (L:=[⟨[],0,144⟩])) (by simp) (T6 _) (by simp;omega) (by simp;omega)
  rw [List.nil_append] at or_
  have l1:=c1.1
  simp at l1
  have cc1:Chg H' H2 []:=(Chg.app []).trans' c1 (fun x hx=>.inr (by simp at hx;omega))
  have nr:∀x∈ids r,H'.length≤x:=fun x hx=>by
   rcases n1 x hx with h1|h1
   ·simp at h1;omega
   ·simp at h1;omega
  have oo:=o.chg cc1 (by simp)
  have hout:∀x∈ids out,H.length≤x∧x<H'.length:=fun x hx=>hids x (List.mem_append.2 (.inl hx))
  obtain ⟨out',H4,hap2,o4,c4,n4⟩:=oo.push (P:=Tryz.prog) (frz:=H.length) (ty:=36) (a:=r) (by simp) (by simp [or_.rd.one']) (by omega) (fun x hx=>(hout x hx).1)
  simp only [Fl.val_f] at hap2
  have l4:=c4.1
  have one:=And.intro or_.rd.one' or_.rd.cells
  have rlt:=or_.lt
  have o4lt:=o4.lt
  simp [-Qx,t7,t8,t9,t3,a2,a3,a2',a3',hap,hap2,one]
  refine ih (xss.length-(i+1)) _ _ ⟨i+1,out',gs++[r],rfl,by omega,by simp [t7],by simp [t8],?_,by simp,by simp [hgl],o4,(c.trans cc1).trans' c4 (fun x hx=>.inr (hout x hx).1),fun j a xs ha hx=>?_,fun x hx=>?_,?_⟩ (by omega)
  ·simp;rw [w64 (by omega) (by omega)]
  ·by_cases hj:j<gs.length
   ·rw [List.getElem?_append_left hj] at ha
    refine ((hin j a xs ha hx).chg cc1 (by simp)).chg c4 (fun y hy hh=>?_)
    exact (List.nodup_append.1 hnd).2.2 y hh y (List.mem_flatMap.2 ⟨a,List.mem_of_getElem? ha,hy⟩) rfl
   ·rw [List.getElem?_append_right (by omega)] at ha
    have hj2:=(List.getElem?_eq_some_iff.1 ha).1
    simp at hj2
    have:j=i:=by omega
    subst this
    rw [show j-gs.length=0 by omega] at ha
    simp at ha
    subst ha
    rw [List.getElem?_eq_getElem h'] at hx
    cases hx
    exact or_.chg c4 (fun y hy hh=>by have:=nr y hy;have:=(hout y hh).2;omega)
  ·rcases List.mem_append.1 hx with hx|hx
   ·have h2:=o4lt x hx
    rcases n4 x hx with h1|h1
    ·exact ⟨(hout x h1).1,h2⟩
    ·exact ⟨by omega,h2⟩
   ·rw [List.flatMap_append] at hx
    rcases List.mem_append.1 hx with hx|hx
    ·have:=hids x (List.mem_append.2 (.inr hx));omega
    ·simp at hx
     have:=nr x hx;have:=rlt x hx;omega
  ·obtain ⟨d1,d2,d3⟩:=List.nodup_append.1 hnd
   have hgl2:∀x∈gs.flatMap ids,x<H'.length:=fun x hx=>(hids x (List.mem_append.2 (.inr hx))).2
   refine List.nodup_append.2 ⟨Q0 _,?_,fun a ha b hb e=>?_⟩
   ·rw [List.flatMap_append]
    exact Zl d2 (by simpa using Q0 r) (n:=H'.length) hgl2 (fun x hx=>by simp at hx;exact nr x hx)
   ·subst e
    rw [List.flatMap_append] at hb
    rcases n4 a ha with h1|h1
    ·rcases List.mem_append.1 hb with hb|hb
     ·exact d3 a h1 a hb rfl
     ·simp at hb
      have:=nr a hb;have:=(hout a h1).2;omega
    ·rcases List.mem_append.1 hb with hb|hb
     ·have:=hgl2 a hb;omega
     ·simp at hb
      have:=rlt a hb;omega
 ·have:i=xss.length:=by omega
  subst this
  simp [t7,t8,t9,t3]
  exact ⟨(out,gs),rfl,⟨⟨o,hgl,hin⟩,hb,hb2⟩,c,fun x hx=>(hids x hx).1,hnd⟩
theorem Ta (v1 v2:Value) (A B:List Int) (h1:IsI H v1 A) (h2:IsI H v2 B) (l1:A.length≤1073741824) (l2:B.length≤1073741824) :
 wp (vcall C frz 30 [.agg #[v1,v2]] H) (dClasses.Made H (A,B)):=by
 rw [Qb (fn:=Tryz.f30) Tryz.func30 rfl (by kernel_rfl) rfl]
 have one:=And.intro (And.intro h1.one' h1.cells) (And.intro h2.one' h2.cells)
 simp [one]
 try rw [Qe (h:=by kernel_rfl)]
 simp [one]
 refine Qd (Vk v1 A (h1.app _) l1) ?_
 rintro _ H1 ⟨u1,rfl,o1,c1,n1,d1⟩
 have b0:H1[H.length]? = some ⟨[v1,v2],0,32⟩:=Qa (by simp) c1 (by simp)
 have bR:H1[H.length+1]? = some ⟨[.slice none 0 0,.slice none 0 0],0,32⟩:=Qa (by simp) c1 (by simp)
 have cH1:Chg H H1 []:=(Chg.app []).trans c1
 have lc:=c1.1
 simp at n1 lc
 have onu:=W0 o1
 have lt1:=dTable.lt o1
 simp [W1,VM.look,b0,one]
 refine Qd (Vk v2 B (Rd.isI (h2.rd.chg cH1 (by simp))) l2) ?_
 rintro _ H2 ⟨u2,rfl,o2,c2,n2,d2⟩
 have bR:=Qa bR c2 (by simp)
 have o1:=Dt.chg0 (T:=dTable) o1 c2
 have onu2:=W0 o2
 have gR:=Qi (r':=⟨[u1,u2],0,32⟩) bR
 have hF:H.length≤H.length+1:=by omega
 have eR:Chg H2 (H2.set (H.length+1) ⟨[u1,u2],0,32⟩) [H.length+1]:=Qg _ _
 simp [W1,VM.look,bR,onu,onu2,gR,hF]
 refine ⟨(u1,u2),rfl,⟨Dt.chg (T:=dTable) o1 eR (fun i hi hh=>by have:=n1 i hi;simp at hh;omega),Dt.chg (T:=dTable) o2 eR (fun i hi hh=>by have:=n2 i hi;simp at hh;omega)⟩,(cH1.trans c2).trans' eR (fun i hi=>.inr (by simp at hi;omega)),fun i hi=>?_,?_⟩
 ·rcases List.mem_append.1 hi with hi|hi
  ·have:=n1 i hi;omega
  ·have:=n2 i hi;omega
 ·exact List.nodup_append.2 ⟨d1,d2,fun a ha b hb e=>by have:=lt1 a ha;have:=n2 b hb;omega⟩
theorem Kx (v1 v2:Value) (A B:List Int) (h1:IsI H v1 A) (h2:IsI H v2 B) (l1:A.length≤1073741824) (l2:B.length≤1073741824) :
 wp (vcall C frz 119 [.agg #[v1,v2]] H) (dClasses.Made H (A,B)):=by
 rw [Qb (fn:=Tryz.f119) Tryz.func119 rfl (by kernel_rfl) rfl]
 have one:=And.intro (And.intro h1.one' h1.cells) (And.intro h2.one' h2.cells)
 simp [one]
 try rw [Qe (h:=by kernel_rfl)]
 simp [one]
 refine Qd (Le v1 A (h1.app _) l1) ?_
 rintro _ H1 ⟨u1,rfl,o1,c1,n1,d1⟩
 have b0:H1[H.length]? = some ⟨[v1,v2],0,32⟩:=Qa (by simp) c1 (by simp)
 have bR:H1[H.length+1]? = some ⟨[.slice none 0 0,.slice none 0 0],0,32⟩:=Qa (by simp) c1 (by simp)
 have cH1:Chg H H1 []:=(Chg.app []).trans c1
 have lc:=c1.1
 simp at n1 lc
 have onu:=W0 o1
 have lt1:=dTable.lt o1
 simp [W1,VM.look,b0,one]
 refine Qd (Le v2 B (Rd.isI (h2.rd.chg cH1 (by simp))) l2) ?_
 rintro _ H2 ⟨u2,rfl,o2,c2,n2,d2⟩
 have bR:=Qa bR c2 (by simp)
 have o1:=Dt.chg0 (T:=dTable) o1 c2
 have onu2:=W0 o2
 have gR:=Qi (r':=⟨[u1,u2],0,32⟩) bR
 have hF:H.length≤H.length+1:=by omega
 have eR:Chg H2 (H2.set (H.length+1) ⟨[u1,u2],0,32⟩) [H.length+1]:=Qg _ _
 simp [W1,VM.look,bR,onu,onu2,gR,hF]
 refine ⟨(u1,u2),rfl,⟨Dt.chg (T:=dTable) o1 eR (fun i hi hh=>by have:=n1 i hi;simp at hh;omega),Dt.chg (T:=dTable) o2 eR (fun i hi hh=>by have:=n2 i hi;simp at hh;omega)⟩,(cH1.trans c2).trans' eR (fun i hi=>.inr (by simp at hi;omega)),fun i hi=>?_,?_⟩
 ·rcases List.mem_append.1 hi with hi|hi
  ·have:=n1 i hi;omega
  ·have:=n2 i hi;omega
 ·exact List.nodup_append.2 ⟨d1,d2,fun a ha b hb e=>by have:=lt1 a ha;have:=n2 b hb;omega⟩
theorem Y2 {v:NetV} {x:NetD} (o:dNet.Ow H v x):wp (vcall C frz 31 [dNet.val v x] H) (dNet.Made H x):=by
 have ones:=Qn o
 obtain ⟨u2,⟨u3,u4⟩,⟨u5,h5⟩,u6,u7,⟨u8,h8⟩,⟨u9,h9⟩,_⟩:=v
 obtain ⟨⟨w,h,b⟩,⟨A,B⟩,buf,own,turn,src,arr,tm⟩:=x
 obtain ⟨y1,y2,y3,y4,y5,y6,y7,_⟩:=o
 simp only at y1 y2 y3 y4 y5 y6 y7 ones
 rw [Qk]
 rw [Qb (fn:=Tryz.f31) Tryz.func31 rfl (by kernel_rfl) rfl]
 have hF:H.length≤H.length+1:=by omega
 simp [ones]
 rw [T8 (h:=⟨by kernel_rfl,by kernel_rfl⟩)]
 obtain ⟨G0,hG0⟩:∃G,G=H++[⟨[.int .i64 w,.int .i64 h,u2,u3,u4,u5,u6,u7,u8,u9,.int .i64 tm],0,38⟩,⟨[.int .i64 0,.int .i64 0,.slice none 0 0,.slice none 0 0,.slice none 0 0,.slice none 0 0,.slice none 0 0,.slice none 0 0,.slice none 0 0,.slice none 0 0,.int .i64 0],0,38⟩]:=⟨_,rfl⟩
 have b0:G0[H.length]? = some ⟨[.int .i64 w,.int .i64 h,u2,u3,u4,u5,u6,u7,u8,u9,.int .i64 tm],0,38⟩:=by rw [hG0];simp
 have bR:G0[H.length+1]? = some ⟨[.int .i64 0,.int .i64 0,.slice none 0 0,.slice none 0 0,.slice none 0 0,.slice none 0 0,.slice none 0 0,.slice none 0 0,.slice none 0 0,.slice none 0 0,.int .i64 0],0,38⟩:=by rw [hG0];simp
 have cH:Chg H G0 []:=by rw [hG0];exact Chg.app []
 have lH:H.length+2≤G0.length:=by rw [hG0];simp
 rw [← hG0]
 clear hG0
 have z1:dMesh.Ow G0 u2 (w,h,b):=Dt.chg0 y1 cH
 have z2:dClasses.Ow G0 (u3,u4) (A,B):=Dt.chg0 y2 cH
 have z3:dSS.Ow G0 (u5,h5) buf:=Dt.chg0 y3 cH
 have z4:dIntS.Ow G0 u6 own:=Dt.chg0 y4 cH
 have z5:dIntS.Ow G0 u7 turn:=Dt.chg0 y5 cH
 have z6:dSS.Ow G0 (u8,h8) src:=Dt.chg0 y6 cH
 have z7:dSS.Ow G0 (u9,h9) arr:=Dt.chg0 y7 cH
 clear y1 y2 y3 y4 y5 y6 y7
 simp [emps,empOp,empB,VM.look,b0,ones]
 refine Qd (Tf w h u2 b z1.1.rd.isI z1.2) ?_
 rintro _ G1 ⟨n1,rfl,o1,c1,m1,d1⟩
 have q1:=Yc o1
 have lt1:=dMesh.lt o1
 have lc1:=c1.1
 have b0:=Qa b0 c1 (by simp)
 have bR:=Qa bR c1 (by simp)
 have cH:=cH.trans c1
 have z2:=Dt.chg0 (T:=dClasses) z2 c1
 have z3:=Dt.chg0 (T:=dSS) z3 c1
 have z4:=Dt.chg0 (T:=dIntS) z4 c1
 have z5:=Dt.chg0 (T:=dIntS) z5 c1
 have z6:=Dt.chg0 (T:=dSS) z6 c1
 have z7:=Dt.chg0 (T:=dSS) z7 c1
 try simp [-Qp,Xb,VM.look,b0,ones]
 refine Qd (Ta u3 u4 A B z2.1.1.rd.isI z2.2.1.rd.isI z2.1.2 z2.2.2) ?_
 rintro _ G2 ⟨n2,rfl,o2,c2,m2,d2⟩
 have q2:=Wo o2
 have lt2:=dClasses.lt o2
 have lc2:=c2.1
 have b0:=Qa b0 c2 (by simp)
 have bR:=Qa bR c2 (by simp)
 have cH:=cH.trans c2
 have z3:=Dt.chg0 (T:=dSS) z3 c2
 have z4:=Dt.chg0 (T:=dIntS) z4 c2
 have z5:=Dt.chg0 (T:=dIntS) z5 c2
 have z6:=Dt.chg0 (T:=dSS) z6 c2
 have z7:=Dt.chg0 (T:=dSS) z7 c2
 have o1:=Dt.chg0 (T:=dMesh) o1 c2
 try simp [-Qp,Wp,VM.look,b0,ones]
 refine Qd (U9 u5 h5 buf z3.1.rd z3.2.1 z3.2.2) ?_
 rintro _ G3 ⟨n3,rfl,o3,c3,m3,d3⟩
 have q3:=V4 o3
 have lt3:=dSS.lt o3
 have lc3:=c3.1
 have b0:=Qa b0 c3 (by simp)
 have bR:=Qa bR c3 (by simp)
 have cH:=cH.trans c3
 have z4:=Dt.chg0 (T:=dIntS) z4 c3
 have z5:=Dt.chg0 (T:=dIntS) z5 c3
 have z6:=Dt.chg0 (T:=dSS) z6 c3
 have z7:=Dt.chg0 (T:=dSS) z7 c3
 have o1:=Dt.chg0 (T:=dMesh) o1 c3
 have o2:=Dt.chg0 (T:=dClasses) o2 c3
 try simp [-Qp,show dSS.val n3 buf=n3.1 from rfl,VM.look,b0,ones]
 obtain ⟨n4,L4,hap4,o4,m4⟩:=L7 (frz:=H.length) u6 own z4.1.rd z4.2
 have c4:Chg G3 (G3++L4) []:=Chg.app _
 have d4:=Q0 n4
 have q4:=Z6 o4
 simp [-Qp,hap4,VM.look]
 generalize G3++L4=G4 at *
 have lt4:=dIntS.lt o4
 have lc4:=c4.1
 have b0:=Qa b0 c4 (by simp)
 have bR:=Qa bR c4 (by simp)
 have cH:=cH.trans c4
 have z5:=Dt.chg0 (T:=dIntS) z5 c4
 have z6:=Dt.chg0 (T:=dSS) z6 c4
 have z7:=Dt.chg0 (T:=dSS) z7 c4
 have o1:=Dt.chg0 (T:=dMesh) o1 c4
 have o2:=Dt.chg0 (T:=dClasses) o2 c4
 have o3:=Dt.chg0 (T:=dSS) o3 c4
 try simp [-Qp,VM.look,b0,ones]
 obtain ⟨n5,L5,hap5,o5,m5⟩:=L7 (frz:=H.length) u7 turn z5.1.rd z5.2
 have c5:Chg G4 (G4++L5) []:=Chg.app _
 have d5:=Q0 n5
 have q5:=Z6 o5
 simp [-Qp,hap5,VM.look]
 generalize G4++L5=G5 at *
 have lt5:=dIntS.lt o5
 have lc5:=c5.1
 have b0:=Qa b0 c5 (by simp)
 have bR:=Qa bR c5 (by simp)
 have cH:=cH.trans c5
 have z6:=Dt.chg0 (T:=dSS) z6 c5
 have z7:=Dt.chg0 (T:=dSS) z7 c5
 have o1:=Dt.chg0 (T:=dMesh) o1 c5
 have o2:=Dt.chg0 (T:=dClasses) o2 c5
 have o3:=Dt.chg0 (T:=dSS) o3 c5
 have o4:=Dt.chg0 (T:=dIntS) o4 c5
 try simp [-Qp,VM.look,b0,ones]
 refine Qd (U9 u8 h8 src z6.1.rd z6.2.1 z6.2.2) ?_
 rintro _ G6 ⟨n6,rfl,o6,c6,m6,d6⟩
 have q6:=V4 o6
 have lt6:=dSS.lt o6
 have lc6:=c6.1
 have b0:=Qa b0 c6 (by simp)
 have bR:=Qa bR c6 (by simp)
 have cH:=cH.trans c6
 have z7:=Dt.chg0 (T:=dSS) z7 c6
 have o1:=Dt.chg0 (T:=dMesh) o1 c6
 have o2:=Dt.chg0 (T:=dClasses) o2 c6
 have o3:=Dt.chg0 (T:=dSS) o3 c6
 have o4:=Dt.chg0 (T:=dIntS) o4 c6
 have o5:=Dt.chg0 (T:=dIntS) o5 c6
 try simp [-Qp,show dSS.val n6 src=n6.1 from rfl,VM.look,b0,ones]
 refine Qd (U9 u9 h9 arr z7.1.rd z7.2.1 z7.2.2) ?_
 rintro _ G7 ⟨n7,rfl,o7,c7,m7,d7⟩
 have q7:=V4 o7
 have lt7:=dSS.lt o7
 have lc7:=c7.1
 have b0:=Qa b0 c7 (by simp)
 have bR:=Qa bR c7 (by simp)
 have cH:=cH.trans c7
 have o1:=Dt.chg0 (T:=dMesh) o1 c7
 have o2:=Dt.chg0 (T:=dClasses) o2 c7
 have o3:=Dt.chg0 (T:=dSS) o3 c7
 have o4:=Dt.chg0 (T:=dIntS) o4 c7
 have o5:=Dt.chg0 (T:=dIntS) o5 c7
 have o6:=Dt.chg0 (T:=dSS) o6 c7
 have gR:=Qi (r':=⟨[.int .i64 w,.int .i64 h,n1,n2.1,n2.2,n3.1,n4,n5,n6.1,n7.1,.int .i64 tm],0,38⟩) bR
 have eR:Chg G7 (G7.set (H.length+1) ⟨[.int .i64 w,.int .i64 h,n1,n2.1,n2.2,n3.1,n4,n5,n6.1,n7.1,.int .i64 tm],0,38⟩) [H.length+1]:=Qg _ _
 have o1:=Dt.chg (T:=dMesh) o1 eR (fun i hi hh=>by have:=m1 i hi;simp at hh;omega)
 have o2:=Dt.chg (T:=dClasses) o2 eR (fun i hi hh=>by have:=m2 i hi;simp at hh;omega)
 have o3:=Dt.chg (T:=dSS) o3 eR (fun i hi hh=>by have:=m3 i hi;simp at hh;omega)
 have o4:=Dt.chg (T:=dIntS) o4 eR (fun i hi hh=>by have:=m4 i hi;simp at hh;omega)
 have o5:=Dt.chg (T:=dIntS) o5 eR (fun i hi hh=>by have:=m5 i hi;simp at hh;omega)
 have o6:=Dt.chg (T:=dSS) o6 eR (fun i hi hh=>by have:=m6 i hi;simp at hh;omega)
 have o7:=Dt.chg (T:=dSS) o7 eR (fun i hi hh=>by have:=m7 i hi;simp at hh;omega)
 have cH:=cH.trans' eR (fun i hi=>.inr (by simp at hi;omega))
 simp [show dSS.val n7 arr=n7.1 from rfl,VM.look,b0,bR,gR,hF,q1,q2,q3,q4,q5,q6,q7]
 refine ⟨(n1,n2,n3,n4,n5,n6,n7,()),rfl,⟨o1,o2,o3,o4,o5,o6,o7,trivial⟩,cH,fun i hi=>?_,?_⟩
 ·rcases List.mem_append.1 hi with hi|hi
  ·have:=m1 i hi;omega
  rcases List.mem_append.1 hi with hi|hi
  ·have:=m2 i hi;omega
  rcases List.mem_append.1 hi with hi|hi
  ·have:=m3 i hi;omega
  rcases List.mem_append.1 hi with hi|hi
  ·have:=m4 i hi;omega
  rcases List.mem_append.1 hi with hi|hi
  ·have:=m5 i hi;omega
  rcases List.mem_append.1 hi with hi|hi
  ·have:=m6 i hi;omega
  rcases List.mem_append.1 hi with hi|hi
  ·have:=m7 i hi;omega
  ·simp [dNone] at hi
 ·have z7:(dSS.ids n7++[]).Nodup∧∀i∈dSS.ids n7++[],G6.length≤i:=⟨by simpa using d7,fun i hi=>by simp at hi;have:=m7 i hi;omega⟩
  have z6:(dSS.ids n6++(dSS.ids n7++[])).Nodup∧∀i∈dSS.ids n6++(dSS.ids n7++[]),G5.length≤i:=⟨Zl d6 z7.1 lt6 z7.2,fun i hi=>by rcases List.mem_append.1 hi with hi|hi;(have:=m6 i hi;omega);(have:=z7.2 i hi;omega)⟩
  have z5:(dIntS.ids n5++(dSS.ids n6++(dSS.ids n7++[]))).Nodup∧∀i∈dIntS.ids n5++(dSS.ids n6++(dSS.ids n7++[])),G4.length≤i:=⟨Zl d5 z6.1 lt5 z6.2,fun i hi=>by rcases List.mem_append.1 hi with hi|hi;(have:=m5 i hi;omega);(have:=z6.2 i hi;omega)⟩
  have z4:(dIntS.ids n4++(dIntS.ids n5++(dSS.ids n6++(dSS.ids n7++[])))).Nodup∧∀i∈dIntS.ids n4++(dIntS.ids n5++(dSS.ids n6++(dSS.ids n7++[]))),G3.length≤i:=⟨Zl d4 z5.1 lt4 z5.2,fun i hi=>by rcases List.mem_append.1 hi with hi|hi;(have:=m4 i hi;omega);(have:=z5.2 i hi;omega)⟩
  have z3:(dSS.ids n3++(dIntS.ids n4++(dIntS.ids n5++(dSS.ids n6++(dSS.ids n7++[]))))).Nodup∧∀i∈dSS.ids n3++(dIntS.ids n4++(dIntS.ids n5++(dSS.ids n6++(dSS.ids n7++[])))),G2.length≤i:=⟨Zl d3 z4.1 lt3 z4.2,fun i hi=>by rcases List.mem_append.1 hi with hi|hi;(have:=m3 i hi;omega);(have:=z4.2 i hi;omega)⟩
  have z2:(dClasses.ids n2++(dSS.ids n3++(dIntS.ids n4++(dIntS.ids n5++(dSS.ids n6++(dSS.ids n7++[])))))).Nodup∧∀i∈dClasses.ids n2++(dSS.ids n3++(dIntS.ids n4++(dIntS.ids n5++(dSS.ids n6++(dSS.ids n7++[]))))),G1.length≤i:=⟨Zl d2 z3.1 lt2 z3.2,fun i hi=>by rcases List.mem_append.1 hi with hi|hi;(have:=m2 i hi;omega);(have:=z3.2 i hi;omega)⟩
  exact Zl d1 z2.1 lt1 z2.2
theorem Qb0 (w h:Int) (v u:Value) (b T:List Int) (a to:Int) (hI:IsI H v b) (hT:IsI H u T) (hl:b.length≤1073741824) (hz:tsized w h b T) (ha:isN w h a) (hto:isN w h to) :
 vcall C frz 191 [.agg #[.int .i64 w,.int .i64 h,v],.agg #[u],.int .i64 a,.int .i64 to] H =
  some (.slice (some ⟨H.length,0,some 0⟩) (walk w h b T a to).length 0,H++[⟨(walk w h b T a to).map (.int .i64),0,3⟩]):=by
 rw [Qb (fn:=Tryz.f191) Tryz.func191 rfl (by kernel_rfl) rfl]
 simp [hI.one',hI.cells,hT.one',hT.cells,Wd]
 have hc:=Qf w h
 refine Xy (fun n t H'=>∃(o:List Int) (g:Nat) (x:Int) (G:Heap),n=(cnt w h).toNat+1-o.length∧t 3=.int .i64 to∧t 4=.pointer (some ⟨H.length,0,some 0⟩)∧t 5=.pointer (some ⟨H.length+1,0,some 0⟩)∧
  t 9=.slice (some ⟨H.length+2,0,some g⟩) o.length 0∧t 10=.int .i64 (cnt w h)∧t 11=.int .i64 x∧
  H'=H++⟨[.int .i64 w,.int .i64 h,v],0,28⟩::⟨[u],0,30⟩::⟨o.map (.int .i64),g,3⟩::G∧
  ((o.length≤(cnt w h).toNat∧isN w h x∧walkN w h b T to ((cnt w h).toNat-o.length) x o=walk w h b T a to)∨(o.length=(cnt w h).toNat+1∧walk w h b T a to=[]))) ?_
  (n:=(cnt w h).toNat+1) ⟨[],0,a,[],by simp [ha,walk]⟩
 rintro n t H' ⟨o,g,x,G,rfl,h3,h4,h5,h9,h10,h11,rfl,ho⟩ ih
 simp [h3,h4,h5,h9,h10,h11]
 refine Qq _ ?_ ?_<;>intro hn
 ·obtain ⟨ho1,hx,hw⟩:o.length≤(cnt w h).toNat∧isN w h x∧walkN w h b T to ((cnt w h).toNat-o.length) x o=walk w h b T a to:=by
   rcases ho with ho|ho
   ·exact ho
   ·omega
  obtain ⟨k0,k1,k2,k3⟩:=Sa hx hto
  have hTl:=hz.2
  have e1:IntKind.i64.wrap (x*cnt w h)=x*cnt w h:=w64 (by omega) (by omega)
  have e2:IntKind.i64.wrap (x*cnt w h+to)=x*cnt w h+to:=w64 (by omega) (by have:=hto.2;omega)
  have q1:∀L,vindexAddr Tryz.prog (H++L) 26 u (.int .i64 (x*cnt w h+to))=some (elp u (x*cnt w h+to).toNat):=fun L=>hT.idxA (e:=3) (by simp) k0 (by omega)
  have q2:∀L,vload Tryz.prog (H++L) 3 (elp u (x*cnt w h+to).toNat)=some (.int .i64 (portOf w h T x to)):=fun L=>hT.loadA (by simp) (by omega)
  simp [h3,h4,h5,h9,h10,h11,e1,e2,q1,q2]
  refine Qq _ ?_ ?_<;>intro hp
  ·have hw':walk w h b T a to=if x=to then o else []:=by
    rw [← hw];cases (cnt w h).toNat-o.length<;>simp [walkN,hp]
   simp [h3,h4,h5,h9,h10,h11,hp]
   refine Qq _ ?_ ?_<;>intro hq
   ·simp [h3,h4,h5,h9,h10,h11,hq] at hw' ⊢
    simp [hw']
   ·simp [h3,h4,h5,h9,h10,h11,hq] at hw' ⊢
    simp [hw']
  ·simp [h3,h4,h5,h9,h10,h11,hp]
   have hw0:¬stepOk w h b T x to→walk w h b T a to=[]:=fun hh=>by
    rw [← hw];cases (cnt w h).toNat-o.length<;>simp [walkN,hp,hh]
   have e3:IntKind.i64.wrap (4*x)=4*x:=w64 (by have:=hx.1;omega) (by have:=hx.2;omega)
   simp [Zh]
   refine We _ _ ?_ ?_<;>intro hr
   ·have e4:IntKind.i64.wrap (4*x+portOf w h T x to)=4*x+portOf w h T x to:=w64 (by have:=hx.1;have:=hr.1;omega) (by have:=hx.2;have:=hr.2;omega)
    simp [h3,h4,h5,h9,h10,h11,hp,hr,e3,e4,yl _ _ _ _ _ (hI.app _) hl,hI.one',hI.cells]
    refine Qq _ ?_ ?_<;>intro hh
    ·simp [h3,h4,h5,h9,h10,h11,hp,hr,hh,e3,e4,R2,hI.one',hI.cells]
     obtain ⟨s1,s2,s3⟩:=Xl hr hh
     refine W3 (by omega) ?_
     refine ih ((cnt w h).toNat+1-(o.length+1)) _ _ ⟨o++[4*x+portOf w h T x to],g+1,next w h x (portOf w h T x to),_,by simp,by simp [h3],by simp [h4],by simp [h5],by simp,by simp [h10],by simp,by simp;rfl,?_⟩ (by omega)
     by_cases hlt:o.length<(cnt w h).toNat
     ·refine .inl ⟨by simp;omega,s3,?_⟩
      rw [show (cnt w h).toNat-o.length=((cnt w h).toNat-(o++[4*x+portOf w h T x to]).length)+1 by simp;omega] at hw
      rw [← hw,walkN,if_neg hp,if_pos ⟨hr,hh⟩]
     ·refine .inr ⟨by simp;omega,?_⟩
      rw [show (cnt w h).toNat-o.length=0 by omega] at hw
      rw [← hw,walkN,if_neg hp]
    ·have hw2:=hw0 (fun k=>hh k.2)
     simp [h3,h4,h5,h9,h10,h11,hp,hr,hh,e3,e4,hw2]
   ·have hw2:=hw0 (fun k=>hr k.1)
    simp [h3,h4,h5,h9,h10,h11,hp,hr,hw2]
 ·have hw2:walk w h b T a to=[]:=by
   rcases ho with ho|ho
   ·omega
   ·exact ho.2
  simp [h3,h4,h5,h9,h10,h11,hn,hw2]
theorem F7 (w h:Int) (v u:Value) (b T:List Int) (a to:Int) (hI:IsI H v b) (hT:IsI H u T) (hl:b.length≤1073741824) (hz:tsized w h b T) (ha:isN w h a) (hto:isN w h to) :
 vcall C frz 128 [.agg #[.int .i64 w,.int .i64 h,v],.agg #[u],.int .i64 a,.int .i64 to] H =
  some (.int .i64 (if inR 0 (portOf w h T a to) 4 then portOf w h T a to else -1),H):=by
 rw [Qb (fn:=Tryz.f128) Tryz.func128 rfl (by kernel_rfl) rfl]
 have hc:=Qf w h
 obtain ⟨k0,k1,k2,k3⟩:=Sa ha hto
 have hTl:=hz.2
 have hc2:cnt w h*cnt w h≤16*16:=Int.mul_le_mul hc.2 hc.2 hc.1 (by omega)
 have hc3:0*0≤cnt w h*cnt w h:=Int.mul_le_mul hc.1 hc.1 (by omega) hc.1
 have e0:IntKind.i64.wrap (cnt w h*cnt w h)=cnt w h*cnt w h:=w64 (by omega) (by omega)
 have e1:IntKind.i64.wrap (a*cnt w h)=a*cnt w h:=w64 (by omega) (by omega)
 have e2:IntKind.i64.wrap (a*cnt w h+to)=a*cnt w h+to:=w64 (by omega) (by have:=hto.2;omega)
 have q1:∀L,vindexAddr Tryz.prog (H++L) 26 u (.int .i64 (a*cnt w h+to))=some (elp u (a*cnt w h+to).toNat):=fun L=>hT.idxA (e:=3) (by simp) k0 (by omega)
 have q2:∀L,vload Tryz.prog (H++L) 3 (elp u (a*cnt w h+to).toNat)=some (.int .i64 (portOf w h T a to)):=fun L=>hT.loadA (by simp) (by omega)
 simp [hI.one',hI.cells,hT.one',hT.cells,Wb,Zz _ _ _ _ (hI.app _) hl,hz.1,Qj,Kt,ha,hto,e0,e1,e2,q1,q2,hT.lenA,hTl]
 try refine Qq _ ?_ ?_<;>intro hr<;>simp [hr,q1,q2,e1,e2]
def ret (H:Heap) (xs:List Int):Value×Heap:=if xs=[] then (.slice none 0 0,H) else (.slice (some ⟨H.length,0,some 0⟩) xs.length 0,H++[⟨xs.map (.int .i64),0,3⟩])
theorem kz (w h:Int) (v u:Value) (b T:List Int) (a to:Int) (hI:IsI H v b) (hT:IsI H u T) (hl:b.length≤1073741824) (hz:tsized w h b T) (ha:isN w h a) (hto:isN w h to) (hne:a≠to) :
 vcall C frz 97 [.agg #[.int .i64 w,.int .i64 h,v],.agg #[u],.int .i64 a,.int .i64 to] H=some (ret H (walk w h b T a to)):=by
 rw [Qb (fn:=Tryz.f97) Tryz.func97 rfl (by kernel_rfl) rfl]
 have hc:=Qf w h
 simp [hI.one',hI.cells,hT.one',hT.cells,Wb,Zz _ _ _ _ (hI.app _) hl,hz.1,W4,ha,hto,hne]
 refine Xy (fun n t H'=>∃(o:List Int) (g:Nat) (x:Int) (G:Heap),n=(cnt w h).toNat+1-o.length∧t 3=.int .i64 to∧t 4=.pointer (some ⟨H.length,0,some 0⟩)∧t 5=.pointer (some ⟨H.length+1,0,some 0⟩)∧
  t 9=.slice (some ⟨H.length+2,0,some g⟩) o.length 0∧t 10=.int .i64 x∧
  H'=H++⟨[.int .i64 w,.int .i64 h,v],0,28⟩::⟨[u],0,30⟩::⟨o.map (.int .i64),g,3⟩::G∧
  o.length≤(cnt w h).toNat∧isN w h x∧walkN w h b T to ((cnt w h).toNat-o.length) x o=walk w h b T a to∧(o=[]→x≠to)) ?_
  (n:=(cnt w h).toNat+1) ⟨[],0,a,[],by simp [ha,walk,hne]⟩
 rintro n t H' ⟨o,g,x,G,rfl,h3,h4,h5,h9,h10,rfl,ho1,hx,hw,hox⟩ ih
 have hpa:=fun F L=>F7 (frz:=F) (H:=H++L) w h v u b T x to (hI.app _) (hT.app _) hl hz hx hto
 have hw0:portOf w h T x to≠4→¬stepOk w h b T x to→walk w h b T a to=[]:=fun hp hh=>by
  rw [← hw];cases (cnt w h).toNat-o.length<;>simp [walkN,hp,hh]
 simp [h3,h4,h5,h9,h10,hI.one',hI.cells,hT.one',hT.cells,hpa]
 have hnil:walk w h b T a to=[]→(Value.slice none 0 0,H)=ret H (walk w h b T a to):=fun hh=>by rw [hh];rfl
 by_cases hr:inR 0 (portOf w h T x to) 4
 ·have hlt:¬portOf w h T x to<0:=by have:=hr.1;omega
  simp [hr,hlt]
  refine Qq _ ?_ ?_<;>intro hp
  ·have hw':walk w h b T a to=if x=to then o else []:=by
    rw [← hw];cases (cnt w h).toNat-o.length<;>simp [walkN,hp]
   simp [h3,h4,h5,h9,h10,hp]
   refine Qq _ ?_ ?_<;>intro hq
   ·have hon:o≠[]:=fun hh=>hox hh hq
    rw [if_pos hq] at hw'
    simp [h3,h4,h5,h9,h10,hq,hw',ret,hon]
   ·rw [if_neg hq] at hw'
    simp [h3,h4,h5,h9,h10,hq,hw',ret]
  ·have hr3:inR 0 (portOf w h T x to) 3:=⟨hr.1,by have:=hr.2;omega⟩
   have e3:IntKind.i64.wrap (4*x)=4*x:=w64 (by have:=hx.1;omega) (by have:=hx.2;omega)
   have e4:IntKind.i64.wrap (4*x+portOf w h T x to)=4*x+portOf w h T x to:=w64 (by have:=hx.1;have:=hr.1;omega) (by have:=hx.2;have:=hr.2;omega)
   simp [h3,h4,h5,h9,h10,hp,hI.one',hI.cells,e3,e4,Yv _ _ _ _ _ (hI.app _) hl,hz.1]
   refine We _ _ ?_ ?_<;>intro hh
   ·obtain ⟨s1,s2,s3⟩:=Xl hr3 hh
    have he:=fun F L=>Sn (frz:=F) (H:=H++L) w h v b (4*x+portOf w h T x to) (hI.app _) hh.1
    rw [s1,s2] at he
    simp [h3,h4,h5,h9,h10,hp,hh,hI.one',hI.cells,e3,e4,Wb]
    refine Qq _ ?_ ?_<;>intro hf
    ·have hwz:walk w h b T a to=[]:=by
      rw [show (cnt w h).toNat-o.length=0 by omega] at hw
      rw [← hw,walkN,if_neg hp]
     simp [h3,h4,h5,h9,h10,hp,hh,hf,hnil hwz]
    ·simp [h3,h4,h5,h9,h10,hp,hh,hf,hI.one',hI.cells,e3,e4]
     refine W3 (by omega) ?_
     simp [h3,h4,h5,h9,h10,hp,hh,hf,hI.one',hI.cells,e3,e4,he]
     refine ih ((cnt w h).toNat+1-(o.length+1)) _ _ ⟨o++[4*x+portOf w h T x to],g+1,next w h x (portOf w h T x to),_,by simp,by simp [h3],by simp [h4],by simp [h5],by simp,by simp,by simp;rfl,by simp;omega,s3,?_,by simp⟩ (by omega)
     rw [show (cnt w h).toNat-o.length=((cnt w h).toNat-(o++[4*x+portOf w h T x to]).length)+1 by simp;omega] at hw
     rw [← hw,walkN,if_neg hp,if_pos ⟨hr3,hh⟩]
   ·simp [h3,h4,h5,h9,h10,hp,hh]
    exact hnil (hw0 hp (fun hs=>hh hs.2))
 ·simp [hr]
  refine hnil (hw0 (fun hp=>hr ?_) fun hs=>hr ⟨hs.1.1,by have:=hs.1.2;omega⟩)
  rw [hp];exact ⟨by omega,by omega⟩
theorem El (w h:Int):IntKind.i64.wrap (cnt w h*cnt w h)=cnt w h*cnt w h:=by
 have hc:=Qf w h
 have hc2:cnt w h*cnt w h≤16*16:=Int.mul_le_mul hc.2 hc.2 hc.1 (by omega)
 have hc3:0*0≤cnt w h*cnt w h:=Int.mul_le_mul hc.1 hc.1 (by omega) hc.1
 exact w64 (by omega) (by omega)
theorem Qbn (w h:Int) (v u:Value) (b T:List Int) (hI:IsI H v b) (hT:IsI H u T) (hl:b.length≤1073741824) :
 vcall C frz 190 [.agg #[.int .i64 w,.int .i64 h,v],.agg #[u]] H=some (.bool (decide (tsized w h b T)),H):=by
 rw [Qb (fn:=Tryz.f190) Tryz.func190 rfl (by kernel_rfl) rfl]
 simp [hI.one',hI.cells,hT.one',hT.cells,Wd,wx _ _ _ _ (hI.app _) hl]
 refine We _ _ ?_ ?_<;>intro h1<;>simp [h1,tsized,hT.lenA,El,hI.one',hI.cells,hT.one',hT.cells,Wd,-Bool.decide_and]
def good (w h:Int) (b T:List Int) (a c:Nat):Prop:=((a:Int)=c→portOf w h T a a=4)∧((a:Int)≠c→walk w h b T a c≠[])
theorem R9 (w h:Int) (b T:List Int):tableOk w h b T↔tsized w h b T∧∀a,a<(cnt w h).toNat→∀c,c<(cnt w h).toNat→good w h b T a c:=by
 unfold tableOk good
 refine and_congr Iff.rfl ⟨fun k a ha c hc=>?_,fun k a ha c hc=>?_⟩
 ·exact ⟨fun e=>(k a ha c hc).1 (by omega),fun e=>(k a ha c hc).2 (by omega)⟩
 ·exact ⟨fun e=>(k a ha c hc).1 (by omega),fun e=>(k a ha c hc).2 (by omega)⟩
theorem Wc {w h:Int} {a:Nat} (k:a<(cnt w h).toNat):isN w h a:=⟨by omega,by omega⟩
theorem O7 (w h:Int) (v u:Value) (b T:List Int) (hI:IsI H v b) (hT:IsI H u T) (hl:b.length≤1073741824) :
 vcall C frz 162 [.agg #[.int .i64 w,.int .i64 h,v],.agg #[u]] H=some (.bool (decide (tableOk w h b T)),H):=by
 rw [Qb (fn:=Tryz.f162) Tryz.func162 rfl (by kernel_rfl) rfl]
 simp [hI.one',hI.cells,hT.one',hT.cells,Wd,Qbn _ _ _ _ _ _ (hI.app _) (hT.app _) hl]
 refine Qq _ ?_ ?_<;>intro h1
 ·simp [h1,hI.one',hI.cells,hT.one',hT.cells,Wd]
  have hc:=Qf w h
  have no:∀i j:Nat,i<(cnt w h).toNat→j<(cnt w h).toNat→¬good w h b T i j→¬tableOk w h b T:=fun i j hi hj hg hh=>hg (((R9 w h b T).1 hh).2 i hi j hj)
  refine Xy (fun n t H'=>∃(i:Nat) (G:Heap),n=(cnt w h).toNat-i∧i≤(cnt w h).toNat∧t 2=.pointer (some ⟨H.length,0,some 0⟩)∧t 3=.pointer (some ⟨H.length+1,0,some 0⟩)∧
   t 5=.int .i64 (cnt w h)∧t 6=.int .i64 i∧H'=H++⟨[.int .i64 w,.int .i64 h,v],0,28⟩::⟨[u],0,30⟩::G∧∀a,a<i→∀c,c<(cnt w h).toNat→good w h b T a c) ?_
   (n:=(cnt w h).toNat) ⟨0,[],by simp⟩
  rintro n t H' ⟨i,G,rfl,hi,h2,h3,h5,h6,rfl,hk⟩ ih
  simp [h2,h3,h5,h6]
  refine Qq _ ?_ ?_<;>intro hlt
  ·simp [h2,h3,h5,h6,hlt]
   refine Xy (fun n t H'=>∃(j:Nat) (G:Heap),n=(cnt w h).toNat-j∧j≤(cnt w h).toNat∧t 2=.pointer (some ⟨H.length,0,some 0⟩)∧t 3=.pointer (some ⟨H.length+1,0,some 0⟩)∧
    t 5=.int .i64 (cnt w h)∧t 6=.int .i64 i∧t 7=.int .i64 j∧H'=H++⟨[.int .i64 w,.int .i64 h,v],0,28⟩::⟨[u],0,30⟩::G∧∀c,c<j→good w h b T i c) ?_
    (n:=(cnt w h).toNat) ⟨0,G,by simp [h2,h3,h5,h6]⟩
   clear h2 h3 h5 h6
   rintro n t H' ⟨j,G,rfl,hj,h2,h3,h5,h6,h7,rfl,hkj⟩ ih2
   simp [h2,h3,h5,h6,h7]
   refine Qq _ ?_ ?_<;>intro hlj
   ·have ni:i<(cnt w h).toNat:=by omega
    have nj:j<(cnt w h).toNat:=by omega
    obtain ⟨k0,k1,k2,k3⟩:=Sa (Wc ni) (Wc ni)
    have hTl:=h1.2
    have e1:IntKind.i64.wrap (i*cnt w h)=i*cnt w h:=w64 (by omega) (by omega)
    have e2:IntKind.i64.wrap (i*cnt w h+i)=i*cnt w h+i:=w64 (by omega) (by omega)
    have q1:∀L,vindexAddr Tryz.prog (H++L) 26 u (.int .i64 (i*cnt w h+i))=some (elp u (i*cnt w h+i:Int).toNat):=fun L=>hT.idxA (e:=3) (by simp) k0 (by omega)
    have q2:∀L,vload Tryz.prog (H++L) 3 (elp u (i*cnt w h+i:Int).toNat)=some (.int .i64 (portOf w h T i i)):=fun L=>hT.loadA (by simp) (by omega)
    have sw:=fun F L=>Qb0 (frz:=F) (H:=H++L) w h v u b T i j (hI.app _) (hT.app _) hl h1 (Wc ni) (Wc nj)
    have yes:=fun (t':Env) (G':Heap) (x2:t' 2=.pointer (some ⟨H.length,0,some 0⟩)) (x3:t' 3=.pointer (some ⟨H.length+1,0,some 0⟩)) (x5:t' 5=.int .i64 (cnt w h)) (x6:t' 6=.int .i64 i) (x7:t' 7=.int .i64 (j+1:Nat)) (hg:good w h b T i j)=>
     ih2 ((cnt w h).toNat-(j+1)) t' _ ⟨j+1,G',rfl,by omega,x2,x3,x5,x6,x7,rfl,fun c hc'=>by
      by_cases hcj:c<j
      ·exact hkj c hcj
      ·have:c=j:=by omega
       subst this;exact hg⟩ (by omega)
    simp [h2,h3,h5,h6,h7,hlj]
    refine We _ _ ?_ ?_<;>intro hij
    ·obtain rfl:i=j:=by omega
     simp [h2,h3,h5,h6,h7,hlj,e1,e2,q1,q2]
     refine We _ _ ?_ ?_<;>intro hp
     ·simp [h2,h3,h5,h6,h7,hlj,hp]
      refine yes _ _ (by simp [h2]) (by simp [h3]) (by simp [h5]) (by simp [h6]) ?_ ⟨fun _=>hp,fun hh=>absurd rfl hh⟩
      simp;rw [w64 (by omega) (by omega)]
     ·simp [h2,h3,h5,h6,h7,hlj,hp]
      exact no i i ni ni (fun hg=>hp (hg.1 rfl))
    ·simp [h2,h3,h5,h6,h7,hlj,hij,hI.one',hI.cells,hT.one',hT.cells,sw]
     refine Qq _ ?_ ?_<;>intro hp
     ·simp [h2,h3,h5,h6,h7,hlj,hp]
      exact no i j ni nj (fun hg=>hg.2 hij hp)
     ·simp [h2,h3,h5,h6,h7,hlj,hp]
      refine yes _ _ (by simp [h2]) (by simp [h3]) (by simp [h5]) (by simp [h6]) ?_ ⟨fun hh=>absurd hh hij,fun _=>hp⟩
      simp;rw [w64 (by omega) (by omega)]
   ·have:j=(cnt w h).toNat:=by omega
    subst this
    simp [h2,h3,h5,h6,h7,hlj]
    refine ih ((cnt w h).toNat-(i+1)) _ _ ⟨i+1,G,rfl,by omega,by simp [h2],by simp [h3],by simp [h5],?_,rfl,fun a ha c hc'=>?_⟩ (by omega)
    ·simp;rw [w64 (by omega) (by omega)]
    ·by_cases hai:a<i
     ·exact hk a hai c hc'
     ·have:a=i:=by omega
      subst this;exact hkj c hc'
  ·simp [h2,h3,h5,h6,hlt]
   have:i=(cnt w h).toNat:=by omega
   subst this
   exact (R9 w h b T).2 ⟨h1,hk⟩
 ·simp [h1]
  exact fun k=>h1 k.1
theorem Vf (v:Value) (xs:List Int) (lo hi:Int) (hI:IsI H v xs) (hl:xs.length≤1073741824) :
 vcall C frz 44 [v,.int .i64 lo,.int .i64 hi] H=some (.bool (decide (∀x∈xs,inR lo x hi)),H):=by
 rw [Qb (fn:=Tryz.f44) Tryz.func44 rfl (by kernel_rfl) rfl]
 simp [hI.len]
 refine Xy (fun n t H'=>∃i:Nat,n=xs.length-i∧i≤xs.length∧t 1=.int .i64 lo∧t 2=.int .i64 hi∧t 9=v∧t 10=.int .i64 xs.length∧t 11=.int .i64 i∧H'=H∧∀x∈xs.take i,inR lo x hi) ?_ (n:=xs.length) ⟨0,by simp⟩
 rintro n t H' ⟨i,rfl,hi',h1,h2,h3,h4,h5,rfl,hj⟩ ih
 simp [h1,h2,h3,h4,h5]
 refine Qq _ ?_ ?_<;>intro h6
 ·simp [h1,h2,h3,h4,h5,h6,hI.idx,hI.load,Q5,Qj]
  refine Qq _ ?_ ?_<;>intro h7<;>simp [h1,h2,h3,h4,h5,h6,h7]
  ·refine ih (xs.length-(i+1)) _ _ ⟨i+1,rfl,by omega,by simp [h1],by simp [h2],by simp [h3],by simp [h4],?_,rfl,fun x hx=>?_⟩ (by omega)
   ·simp;rw [w64 (by omega) (by omega)]
   ·rw [List.take_succ_eq_append_getElem h6] at hx
    rcases List.mem_append.1 hx with hx|hx
    ·exact hj x hx
    ·rw [List.mem_singleton.1 hx];exact h7
  ·exact ⟨_,List.getElem_mem h6,h7⟩
 ·have:i=xs.length:=by omega
  subst this
  simp [h1,h2,h3,h4,h5]
  rwa [List.take_length] at hj
def rowPairs (n a m:Nat):List (Nat×Nat):=((List.range m).filter (fun c=>a≠c)).map fun c=>(a,c)
def allPairs (n m:Nat):List (Nat×Nat):=(List.range m).flatMap fun a=>rowPairs n a n
theorem Rz (n a m:Nat) (h:a=m):rowPairs n a (m+1)=rowPairs n a m:=by
 simp [rowPairs,List.range_succ,h]
theorem Pg (n a m:Nat) (h:a≠m):rowPairs n a (m+1)=rowPairs n a m++[(a,m)]:=by
 simp [rowPairs,List.range_succ,h]
theorem Zj (n m:Nat):allPairs n (m+1)=allPairs n m++rowPairs n m n:=by
 simp [allPairs,List.range_succ]
theorem Yx {n a c:Nat}:(a,c)∈allPairs n n↔a<n∧c<n∧a≠c:=by
 simp [allPairs,rowPairs]
theorem Qb9 (w h:Int) (f:Value) {Q:Value→Heap→Prop} (Inv:List (Nat×Nat)→Heap→Prop)
 (h0:Inv [] (H++[⟨[.int .i64 w,.int .i64 h],0,25⟩]))
 (hs:∀(done:List (Nat×Nat)) (a c:Nat) (H':Heap),a<(cnt w h).toNat→c<(cnt w h).toNat→a≠c→Inv done H'→wp (vclos (vcall C frz) f [.int .i64 a,.int .i64 c] H') fun r H''=>(r=.bool true∧Inv (done++[(a,c)]) H'')∨(r=.bool false∧Q (.bool false) H''))
 (he:∀H',Inv (allPairs (cnt w h).toNat (cnt w h).toNat) H'→Q (.bool true) H') :
 wp (vcall C frz 95 [.agg #[.int .i64 w,.int .i64 h],f] H) Q:=by
 rw [Qb (fn:=Tryz.f95) Tryz.func95 rfl (by kernel_rfl) rfl]
 have hc:=Qf w h
 simp [Wb]
 refine Qh (fun n t H'=>∃(i:Nat),n=(cnt w h).toNat-i∧i≤(cnt w h).toNat∧t 1=f∧t 5=.int .i64 (cnt w h)∧t 10=.int .i64 (cnt w h)∧t 11=.int .i64 i∧
  Inv (allPairs (cnt w h).toNat i) H') ?_ (n:=(cnt w h).toNat) ⟨0,by simp [allPairs,h0]⟩
 rintro n t H' ⟨i,rfl,hi,h1,h5,h10,h11,hk⟩ ih
 simp [h1,h5,h10,h11]
 refine Qc ?_ ?_<;>intro hlt
 ·simp [h1,h5,h10,h11,hlt]
  refine Qh (fun n t H'=>∃(j:Nat),n=(cnt w h).toNat-j∧j≤(cnt w h).toNat∧t 1=f∧t 5=.int .i64 (cnt w h)∧t 10=.int .i64 (cnt w h)∧t 11=.int .i64 i∧t 6=.int .i64 i∧t 14=.int .i64 (cnt w h)∧t 15=.int .i64 j∧
   Inv (allPairs (cnt w h).toNat i++rowPairs (cnt w h).toNat i j) H') ?_ (n:=(cnt w h).toNat) ⟨0,by simp [h1,h5,h10,h11,rowPairs,hk]⟩
  clear h1 h5 h10 h11 hk
  rintro n t H' ⟨j,rfl,hj,h1,h5,h10,h11,h6,h14,h15,hk⟩ ih2
  simp [h1,h5,h10,h11,h6,h14,h15]
  refine Qc ?_ ?_<;>intro hlj
  ·have ni:i<(cnt w h).toNat:=by omega
   have nj:j<(cnt w h).toNat:=by omega
   have yes:=fun (t':Env) (H':Heap) (x1:t' 1=f) (x5:t' 5=.int .i64 (cnt w h)) (x10:t' 10=.int .i64 (cnt w h)) (x11:t' 11=.int .i64 i) (x6:t' 6=.int .i64 i) (x14:t' 14=.int .i64 (cnt w h)) (x15:t' 15=.int .i64 (j+1:Nat)) (hg:Inv (allPairs (cnt w h).toNat i++rowPairs (cnt w h).toNat i (j+1)) H')=>
    ih2 ((cnt w h).toNat-(j+1)) t' H' ⟨j+1,rfl,by omega,x1,x5,x10,x11,x6,x14,x15,hg⟩ (by omega)
   simp [h1,h5,h10,h11,h6,h14,h15,hlj]
   refine Qz ?_ ?_<;>intro hij
   ·simp [h1,h5,h10,h11,h6,h14,h15,hlj,hij]
    refine yes _ _ (by simp [h1]) (by simp [h5]) (by simp [h10]) (by simp [h11]) (by simp [h6]) (by simp [h14]) ?_ (by rw [Rz _ _ _ (by omega)];exact hk)
    simp;rw [w64 (by omega) (by omega)]
   ·simp [h1,h5,h10,h11,h6,h14,h15,hlj,hij]
    refine Qd (hs _ i j H' ni nj (by omega) hk) ?_
    rintro r H'' (⟨rfl,hq⟩|⟨rfl,hq⟩)
    ·simp [h1,h5,h10,h11,h6,h14,h15,hlj,hij]
     refine yes _ _ (by simp [h1]) (by simp [h5]) (by simp [h10]) (by simp [h11]) (by simp [h6]) (by simp [h14]) ?_ (by rw [Pg _ _ _ (by omega),← List.append_assoc];exact hq)
     simp;rw [w64 (by omega) (by omega)]
    ·simp [h1,h5,h10,h11,h6,h14,h15,hlj,hij]
     exact hq
  ·have:j=(cnt w h).toNat:=by omega
   subst this
   simp [h1,h5,h10,h11,h6,h14,h15,hlj]
   refine ih ((cnt w h).toNat-(i+1)) _ _ ⟨i+1,rfl,by omega,by simp [h1],by simp [h5],by simp [h10],?_,by rw [Zj];exact hk⟩ (by omega)
   ·simp;rw [w64 (by omega) (by omega)]
 ·simp [h1,h5,h10,h11,hlt]
  have:i=(cnt w h).toNat:=by omega
  subst this
  exact he _ hk
theorem E7 (w h:Int) (v u:Value) (b T:List Int) (a c:Int) (r1 r2:Nat) (hI:IsI H v b) (hT:IsI H u T) (hl:b.length≤1073741824) (hz:tsized w h b T) (ha:isN w h a) (hto:isN w h c) (hne:a≠c)
 (g1:H[r1]? = some ⟨[.int .i64 w,.int .i64 h,v],0,28⟩) (g2:H[r2]? = some ⟨[u],0,30⟩) :
 vcall C frz 96 [.int .i64 a,.int .i64 c,.pointer (some ⟨r1,0,some 0⟩),.pointer (some ⟨r2,0,some 0⟩)] H=some (.bool (!decide (walk w h b T a c=[])),H):=by
 rw [Qb (fn:=Tryz.f96) Tryz.func96 rfl (by kernel_rfl) rfl]
 simp [VM.look,g1,g2,hI.one',hI.cells,hT.one',hT.cells,kz _ _ _ _ _ _ _ _ hI hT hl hz ha hto hne]
 by_cases hw:walk w h b T a c=[]
 ·simp [ret,hw]
 ·have:0<(walk w h b T a c).length:=List.length_pos_iff.2 hw
  simp [ret,hw,this]
theorem xt (w h:Int) (v u:Value) (b T:List Int) (hI:IsI H v b) (hT:IsI H u T) (hl:b.length≤1073741824) :
 wp (vcall C frz 58 [.agg #[.int .i64 w,.int .i64 h,v],.agg #[u]] H) (fun r _=>r=.bool (decide (tableOk w h b T))):=by
 rw [Qb (fn:=Tryz.f58) Tryz.func58 rfl (by kernel_rfl) rfl]
 simp [hI.one',hI.cells,hT.one',hT.cells,Wb,Zz _ _ _ _ (hI.app _) hl]
 refine Qz ?_ ?_<;>intro hm
 ·simp [hm,hT.lenA,El]
  refine Qc ?_ ?_<;>intro hz
  ·simp [hz]
   have hs:tsized w h b T:=⟨hm,hz⟩
   have hc:=Qf w h
   refine Qh (fun n t H'=>∃(i:Nat),n=(cnt w h).toNat-i∧i≤(cnt w h).toNat∧t 2=.pointer (some ⟨H.length,0,some 0⟩)∧t 3=.pointer (some ⟨H.length+1,0,some 0⟩)∧t 5=.int .i64 (cnt w h)∧t 22=.int .i64 (cnt w h)∧t 23=.int .i64 i∧
    H'=H++[⟨[.int .i64 w,.int .i64 h,v],0,28⟩,⟨[u],0,30⟩]∧∀a,a<i→portOf w h T a a=4) ?_ (n:=(cnt w h).toNat) ⟨0,by simp⟩
   rintro n t H' ⟨i,rfl,hi,h2,h3,h5,h22,h23,rfl,hk⟩ ih
   simp [h2,h3,h5,h22,h23]
   refine Qc ?_ ?_<;>intro hlt
   ·have ni:i<(cnt w h).toNat:=by omega
    obtain ⟨k0,k1,k2,k3⟩:=Sa (Wc ni) (Wc ni)
    have e1:IntKind.i64.wrap (i*cnt w h)=i*cnt w h:=w64 (by omega) (by omega)
    have e2:IntKind.i64.wrap (i*cnt w h+i)=i*cnt w h+i:=w64 (by omega) (by omega)
    have q1:∀L,vindexAddr Tryz.prog (H++L) 26 u (.int .i64 (i*cnt w h+i))=some (elp u (i*cnt w h+i:Int).toNat):=fun L=>hT.idxA (e:=3) (by simp) k0 (by omega)
    have q2:∀L,vload Tryz.prog (H++L) 3 (elp u (i*cnt w h+i:Int).toNat)=some (.int .i64 (portOf w h T i i)):=fun L=>hT.loadA (by simp) (by omega)
    simp [h2,h3,h5,h22,h23,hlt,e1,e2,q1,q2]
    refine Qc ?_ ?_<;>intro hp
    ·simp [h2,h3,h5,h22,h23,hlt,hp]
     refine ih ((cnt w h).toNat-(i+1)) _ _ ⟨i+1,rfl,by omega,by simp [h2],by simp [h3],by simp [h5],by simp [h22],?_,rfl,fun a ha=>?_⟩ (by omega)
     ·simp;rw [w64 (by omega) (by omega)]
     ·by_cases hai:a<i
      ·exact hk a hai
      ·have:a=i:=by omega
       subst this;exact hp
    ·simp [h2,h3,h5,h22,h23,hlt,hp]
     exact fun hh=>hp ((hh.2 i ni i ni).1 rfl)
   ·simp [h2,h3,h5,h22,h23,hlt]
    have:i=(cnt w h).toNat:=by omega
    subst this
    refine Qd (Qb9 w h _ (Q:=fun r _=>r=.bool (decide (tableOk w h b T))) (fun done H'=>∃L,H'=H++[⟨[.int .i64 w,.int .i64 h,v],0,28⟩,⟨[u],0,30⟩]++L∧∀p∈done,walk w h b T p.1 p.2≠[]) ⟨_,rfl,by simp⟩ ?_ ?_) ?_
    ·rintro done a c _ ha hc' hne ⟨L,rfl,hd⟩
     simp
     rw [E7 w h v u b T a c _ _ (hI.app _) (hT.app _) hl hs (Wc ha) (Wc hc') (by omega) (by simp) (by simp)]
     simp
     by_cases hw:walk w h b T a c=[]
     ·refine .inr ⟨hw,?_⟩
      exact fun hh=>(hh.2 a (by omega) c (by omega)).2 (by omega) hw
     ·refine .inl ⟨hw,fun p q hp=>?_⟩
      rcases hp with hp|⟨rfl,rfl⟩
      ·exact hd (p,q) hp
      ·exact hw
    ·rintro _ ⟨L,rfl,hd⟩
     simp
     exact ⟨hs,fun a ha c hc'=>⟨fun _=>hk a ha,fun hne=>hd (a,c) (Yx.2 ⟨ha,hc',hne⟩)⟩⟩
    ·rintro _ H' rfl
     simp
  ·simp [hz]
   exact fun hh=>hz hh.1.2
 ·simp [hm]
  exact fun hh=>hm hh.1.1
theorem Rr (w h:Int) (v u:Value) (b T:List Int) (hI:IsI H v b) (hT:IsI H u T) (hl:b.length≤1073741824) :
 vcall C frz 58 [.agg #[.int .i64 w,.int .i64 h,v],.agg #[u]] H=some (.bool (decide (tableOk w h b T)),H):=
 (xt w h v u b T hI hT hl).exact (by simp) rfl
def castOk (w h:Int) (b T:List Int) (a:Int) (ts:List Int):Prop:=tableOk w h b T∧isN w h a∧∀x∈ts,isN w h x
instance (w h:Int) (b T:List Int) (a:Int) (ts:List Int):Decidable (castOk w h b T a ts):=inferInstanceAs (Decidable (_∧_))
def classesOk (w h:Int) (b A B:List Int):Prop:=tableOk w h b A∧tableOk w h b B
instance (w h:Int) (b A B:List Int):Decidable (classesOk w h b A B):=inferInstanceAs (Decidable (_∧_))
abbrev PkD:=Int×Int×Int×Int×Int
def packetOk (w h:Int) (p:PkD):Prop:=inR 1 p.1 9999∧isN w h p.2.1∧isN w h p.2.2.1∧p.2.1≠p.2.2.1∧inR 0 p.2.2.2.1 1∧inR 1 p.2.2.2.2 5
instance (w h:Int) (p:PkD):Decidable (packetOk w h p):=inferInstanceAs (Decidable (_∧_))
def pkV (p:PkD):Value:=.agg #[.int .i64 p.1,.int .i64 p.2.1,.int .i64 p.2.2.1,.int .i64 p.2.2.2.1,.int .i64 p.2.2.2.2]
theorem Zb (w h:Int) (v u1 u2:Value) (b A B:List Int) (hI:IsI H v b) (h1:IsI H u1 A) (h2:IsI H u2 B) (hl:b.length≤1073741824) :
 vcall C frz 27 [.agg #[.int .i64 w,.int .i64 h,v],.agg #[u1,u2]] H=some (.bool (decide (classesOk w h b A B)),H):=by
 rw [Qb (fn:=Tryz.f27) Tryz.func27 rfl (by kernel_rfl) rfl]
 have one:=And.intro (And.intro h1.one' h1.cells) (And.intro h2.one' h2.cells)
 simp [hI.one',hI.cells,one,Rr _ _ _ _ _ _ (hI.app _) (h1.app _) hl]
 refine We _ _ ?_ ?_<;>intro g<;>simp [g,classesOk,hI.one',hI.cells,one,Rr _ _ _ _ _ _ (hI.app _) (h2.app _) hl]
theorem J6 (w h:Int) (v u1 u2:Value) (b A B:List Int) (hI:IsI H v b) (h1:IsI H u1 A) (h2:IsI H u2 B) (hl:b.length≤1073741824) :
 vcall C frz 117 [.agg #[.int .i64 w,.int .i64 h,v],.agg #[u1,u2]] H=some (.bool (decide (classesOk w h b A B)),H):=by
 rw [Qb (fn:=Tryz.f117) Tryz.func117 rfl (by kernel_rfl) rfl]
 have one:=And.intro (And.intro h1.one' h1.cells) (And.intro h2.one' h2.cells)
 simp [hI.one',hI.cells,one,O7 _ _ _ _ _ _ (hI.app _) (h1.app _) hl]
 refine We _ _ ?_ ?_<;>intro g<;>simp [g,classesOk,hI.one',hI.cells,one,O7 _ _ _ _ _ _ (hI.app _) (h2.app _) hl]
theorem Tr (w h:Int) (p:PkD):vcall C frz 51 [.agg #[.int .i64 w,.int .i64 h],pkV p] H=some (.bool (decide (packetOk w h p)),H):=by
 obtain ⟨i,a,b,c,l⟩:=p
 rw [Qb (fn:=Tryz.f51) Tryz.func51 rfl (by kernel_rfl) rfl]
 by_cases g1:inR 1 i 9999
 ·by_cases g2:isN w h a
  ·by_cases g3:isN w h b
   ·by_cases g4:a=b
    ·simp [pkV,Qj,W4,g1,g2,g3,g4,packetOk]
    ·by_cases g5:inR 0 c 1
     ·by_cases g6:inR 1 l 5<;>simp [pkV,Qj,W4,g1,g2,g3,g4,g5,g6,packetOk]
     ·simp [pkV,Qj,W4,g1,g2,g3,g4,g5,packetOk]
   ·simp [pkV,Qj,W4,g1,g2,g3,packetOk]
  ·simp [pkV,Qj,W4,g1,g2,packetOk]
 ·simp [pkV,Qj,W4,g1,packetOk]
def net0:NetD:=((0,0,[]),([],[]),[],[],[],[],[],0)
def netNew (m:MeshD) (t:ClassesD):NetD:=
 if classesOk m.1 m.2.1 m.2.2 t.1 t.2 then (m,t,List.replicate (10*(cnt m.1 m.2.1).toNat) [],List.replicate (10*(cnt m.1 m.2.1).toNat) (-1),List.replicate (5*(cnt m.1 m.2.1).toNat) 0,List.replicate (cnt m.1 m.2.1).toNat [],List.replicate (cnt m.1 m.2.1).toNat [],0) else net0
theorem emptyS {id n:Nat} (h:H[id]? = some ⟨List.replicate n (.slice none 0 0),0,109⟩) (hn:n≤2097152):dSS.Ow H (.slice (some ⟨id,0,some 0⟩) n 0,List.replicate n (.slice none 0 0)) (List.replicate n []):=by
 refine ⟨⟨.inr ⟨id,0,_,by simp,h,?_,by simp,rfl,?_⟩,by simp,fun j a xs ha hx=>?_⟩,by simpa using hn,fun xs hx=>?_⟩
 ·simp [cellsOf,Fl.val]
 ·simp [ones]
 ·rw [List.getElem?_replicate] at ha hx
  split at ha
  ·cases ha;rename_i hj;rw [if_pos hj] at hx;cases hx;exact .inl ⟨rfl,rfl⟩
  ·cases ha
 ·have:=List.eq_of_mem_replicate hx;subst this;simp
theorem zeroI {id n:Nat} (h:H[id]? = some ⟨List.replicate n (.int .i64 0),0,3⟩) (hn:n≤1073741824):dIntS.Ow H (.slice (some ⟨id,0,some 0⟩) n 0) (List.replicate n 0):=by
 refine ⟨.inr ⟨id,0,_,by simp,h,?_,by simp,rfl,?_⟩,by simpa using hn⟩
 ·rw [Q8];simp
 ·simp [ones]
theorem ssIds (id n m:Nat):dSS.ids (.slice (some ⟨id,0,some 0⟩) n 0,List.replicate m (.slice none 0 0))=[id]:=by
 show idsL _ _=_
 have:∀m,(List.replicate m (Value.slice none 0 0)).flatMap ids=[]:=fun m=>by
  induction m with
  | zero=>rfl
  | succ m ih=>rw [List.replicate_succ,List.flatMap_cons,ih];rfl
 unfold idsL;rw [this];rfl
def nV0:NetV:=(.slice none 0 0,(.slice none 0 0,.slice none 0 0),(.slice none 0 0,[]),.slice none 0 0,.slice none 0 0,(.slice none 0 0,[]),(.slice none 0 0,[]),())
theorem Pz:dNet.ids nV0=[]:=by simp [nV0,dNet,dNet0,dAnd,dSS,dMesh,dClasses,dIntS,dTable,dFlat,dNone,idsL,ids]
theorem Aj (K:Heap):dNet.Ow K nV0 net0:=by
 have e1:dIntS.Ow K (.slice none 0 0) []:=⟨.inl ⟨rfl,rfl⟩,by simp⟩
 have e2:dSS.Ow K (.slice none 0 0,[]) []:=⟨⟨.inl ⟨rfl,rfl⟩,rfl,by simp⟩,by simp,by simp⟩
 exact ⟨e1,⟨e1,e1⟩,e2,e1,e1,e2,e2,trivial⟩
theorem A7 {K:Heap} (c:Chg H K []):dNet.Made H net0 (.agg #[.int .i64 0,.int .i64 0,.slice none 0 0,.slice none 0 0,.slice none 0 0,.slice none 0 0,.slice none 0 0,.slice none 0 0,.slice none 0 0,.slice none 0 0,.int .i64 0]) K:=
 ⟨nV0,rfl,Aj K,c,by rw [Pz];simp,by rw [Pz];simp⟩
theorem ww {vm:Value} {m:MeshD} {vc:Value×Value} {t:ClassesD} (om:dMesh.Ow H vm m) (oc:dClasses.Ow H vc t) :
 wp (vcall C frz 80 [dMesh.val vm m,dClasses.val vc t] H) (Made2 dNet H (netNew m t) (decide (classesOk m.1 m.2.1 m.2.2 t.1 t.2))):=by
 obtain ⟨w,h,b⟩:=m
 obtain ⟨A,B⟩:=t
 have onem:=Yc om
 have onec:=Wo oc
 obtain ⟨u1,u2⟩:=vc
 rw [Xb,Wp]
 simp only at onem onec ⊢
 rw [Qb (fn:=Tryz.f80) Tryz.func80 rfl (by kernel_rfl) rfl]
 have ck:=fun F L=>J6 (frz:=F) (H:=H++L) w h vm u1 u2 b A B (Rd.isI om.1.rd.app) (Rd.isI oc.1.1.rd.app) (Rd.isI oc.2.1.rd.app) om.2
 simp [onem,onec,ck]
 by_cases g0:classesOk w h b A B
 rotate_left
 ·simp [g0]
  have e:netNew (w,h,b) (A,B)=net0:=if_neg g0
  rw [e]
  exact ⟨_,rfl,A7 (Chg.app _)⟩
 obtain ⟨N,hN⟩:∃N:Nat,cnt w h=N:=⟨(cnt w h).toNat,by have:=Qf w h;omega⟩
 have hNr:=Qf w h
 have eN:(cnt w h).toNat=N:=by rw [hN];simp
 simp [g0,Wd]
 obtain ⟨G0,hG0⟩:∃G,G=H++[⟨[.int .i64 w,.int .i64 h,vm],0,28⟩,⟨[u1,u2],0,32⟩,⟨[.int .i64 0,.int .i64 0,.slice none 0 0,.slice none 0 0,.slice none 0 0,.slice none 0 0,.slice none 0 0,.slice none 0 0,.slice none 0 0,.slice none 0 0,.int .i64 0],0,38⟩]:=⟨_,rfl⟩
 have b0:G0[H.length]? = some ⟨[.int .i64 w,.int .i64 h,vm],0,28⟩:=by rw [hG0];simp
 have b1:G0[H.length+1]? = some ⟨[u1,u2],0,32⟩:=by rw [hG0];simp
 have bR:G0[H.length+2]? = some ⟨[.int .i64 0,.int .i64 0,.slice none 0 0,.slice none 0 0,.slice none 0 0,.slice none 0 0,.slice none 0 0,.slice none 0 0,.slice none 0 0,.slice none 0 0,.int .i64 0],0,38⟩:=by rw [hG0];simp
 have cH:Chg H G0 []:=by rw [hG0];exact Chg.app []
 have lH:G0.length=H.length+3:=by rw [hG0];simp
 rw [← hG0]
 clear hG0
 rw [Qe (h:=by kernel_rfl)]
 simp [VM.look,b0,onem,hN]
 have om0:dMesh.Ow G0 vm (w,h,b):=Dt.chg0 om cH
 have oc0:dClasses.Ow G0 (u1,u2) (A,B):=Dt.chg0 oc cH
 refine Qd (Ar w h vm b om0.1.rd.isI om0.2) ?_
 rintro _ G1 ⟨n1,rfl,o1,c1,m1,d1⟩
 have oc1:=Dt.chg0 oc0 c1
 have b1:=Qa b1 c1 (by simp)
 have bR:=Qa bR c1 (by simp)
 have onen:=Yc o1
 simp [VM.look,b1,onec]
 refine Qd (Kx u1 u2 A B oc1.1.1.rd.isI oc1.2.1.rd.isI oc1.1.2 oc1.2.2) ?_
 rintro _ G2 ⟨⟨n2,n3⟩,rfl,o2,c2,m2,d2⟩
 have lt1:=dMesh.lt o1
 have ltc:=dClasses.lt o2
 have o1:=Dt.chg0 o1 c2
 have bR:=Qa bR c2 (by simp)
 have onen2:=Wo o2
 obtain ⟨K5,hK5⟩:∃K,K=5*N:=⟨_,rfl⟩
 obtain ⟨K10,hK10⟩:∃K,K=10*N:=⟨_,rfl⟩
 have e5:∀[Inhabited Unit],IntKind.i64.wrap (5*(N:Int))=(K5:Int):=by intro _;rw [w64 (by omega) (by omega)];omega
 have e10:∀[Inhabited Unit],IntKind.i64.wrap (10*(N:Int))=(K10:Int):=by intro _;rw [w64 (by omega) (by omega)];omega
 have hk5:(K5:Int)≤1073741824:=by omega
 have hk10:(K10:Int)≤1073741824:=by omega
 have hk1:(N:Int)≤1073741824:=by omega
 have cH2:Chg H G2 []:=(cH.trans c1).trans c2
 have l2:=cH2.1
 have l01:=c1.1
 have l12:=c2.1
 have hz:H.length≤G2.length+1:=by omega
 have hz4:H.length≤G2.length+4:=by omega
 simp [Xb,Wp,onen,onen2,e5,e10,hk5,hk10,hk1,hz,hz4]
 obtain ⟨G4,hG4⟩:∃G,G=G2++[⟨List.replicate K10 (.slice none 0 0),0,109⟩,⟨List.replicate K5 (.int .i64 0),0,3⟩,⟨List.replicate N (.slice none 0 0),0,109⟩,⟨List.replicate N (.slice none 0 0),0,109⟩,⟨[.int .i64 w,.int .i64 h,n1,n2,n3,.slice (some ⟨G2.length,0,some 0⟩) K10 0,.slice none 0 0,.slice (some ⟨G2.length+1,0,some 0⟩) K5 0,.slice (some ⟨G2.length+2,0,some 0⟩) N 0,.slice (some ⟨G2.length+3,0,some 0⟩) N 0,.int .i64 0],0,38⟩]:=⟨_,rfl⟩
 have e4:G2++[⟨List.replicate K10 (.slice none 0 0),0,109⟩,⟨List.replicate K5 (.int .i64 0),0,3⟩,⟨List.replicate N (.slice none 0 0),0,109⟩,⟨List.replicate N (.slice none 0 0),0,109⟩,⟨[.int .i64 w,.int .i64 h,n1,n2,n3,.slice (some ⟨G2.length,0,some 0⟩) K10 0,.slice none 0 0,.slice (some ⟨G2.length+1,0,some 0⟩) K5 0,.slice (some ⟨G2.length+2,0,some 0⟩) N 0,.slice (some ⟨G2.length+3,0,some 0⟩) N 0,.int .i64 0],0,38⟩]=G4:=hG4.symm
 rw [e4]
 have l4:G4.length=G2.length+5:=by rw [hG4];simp
 have c4:Chg G2 G4 []:=by rw [hG4];exact Chg.app _
 have bN:G4[G2.length+4]? = some ⟨[.int .i64 w,.int .i64 h,n1,n2,n3,.slice (some ⟨G2.length,0,some 0⟩) K10 0,.slice none 0 0,.slice (some ⟨G2.length+1,0,some 0⟩) K5 0,.slice (some ⟨G2.length+2,0,some 0⟩) N 0,.slice (some ⟨G2.length+3,0,some 0⟩) N 0,.int .i64 0],0,38⟩:=by rw [hG4];simp
 have bR:G4[H.length+2]? = some ⟨[.int .i64 0,.int .i64 0,.slice none 0 0,.slice none 0 0,.slice none 0 0,.slice none 0 0,.slice none 0 0,.slice none 0 0,.slice none 0 0,.slice none 0 0,.int .i64 0],0,38⟩:=Qa bR c4 (by simp)
 have o1:=Dt.chg0 o1 c4
 have o2:=Dt.chg0 o2 c4
 have y3:dSS.Ow G4 (.slice (some ⟨G2.length,0,some 0⟩) K10 0,List.replicate K10 (.slice none 0 0)) (List.replicate K10 []):=emptyS (by rw [hG4];simp) (by omega)
 have y5:dIntS.Ow G4 (.slice (some ⟨G2.length+1,0,some 0⟩) K5 0) (List.replicate K5 0):=zeroI (by rw [hG4];simp) (by omega)
 have y6:dSS.Ow G4 (.slice (some ⟨G2.length+2,0,some 0⟩) N 0,List.replicate N (.slice none 0 0)) (List.replicate N []):=emptyS (by rw [hG4];simp) (by omega)
 have y7:dSS.Ow G4 (.slice (some ⟨G2.length+3,0,some 0⟩) N 0,List.replicate N (.slice none 0 0)) (List.replicate N []):=emptyS (by rw [hG4];simp) (by omega)
 clear hG4 e4
 refine Qh (fun n t G=>∃(i:Nat) (own:Value),n=K10-i∧i≤K10∧t 4=.pointer (some ⟨H.length+2,0,some 0⟩)∧t 6=.int .i64 N∧t 7=.pointer (some ⟨G2.length+4,0,some 0⟩)∧t 8=.int .i64 i∧Chg G4 G [G2.length+4]∧G[G2.length+4]? = some ⟨[.int .i64 w,.int .i64 h,n1,n2,n3,.slice (some ⟨G2.length,0,some 0⟩) K10 0,own,.slice (some ⟨G2.length+1,0,some 0⟩) K5 0,.slice (some ⟨G2.length+2,0,some 0⟩) N 0,.slice (some ⟨G2.length+3,0,some 0⟩) N 0,.int .i64 0],0,38⟩∧Ow Fl.int 3 G own (List.replicate i (-1))∧(∀j∈ids own,G4.length≤j)) ?_ (n:=K10)
  ⟨0,.slice none 0 0,rfl,by omega,by simp,by simp,by simp,by simp,Chg.refl _,bN,.inl ⟨rfl,rfl⟩,by simp⟩
 rintro n t G ⟨i,own,rfl,hi,t4,t6,t7,t8,ch,bb,oo,no⟩ ih
 have hF:H.length≤G2.length+4:=by omega
 simp [t4,t6,t7,t8,e10]
 refine Qc ?_ ?_<;>intro g
 ·obtain ⟨r',H2,hap,ow,cw,nw⟩:=oo.push (P:=Tryz.prog) (frz:=H.length) (ty:=26) (a:=-1) (by simp) rfl (by simp;omega) (fun j hj=>by have:=no j hj;omega)
  simp only [Fl.int_f] at hap
  have hlt:=Qs bb
  have bb1:=fun r=>Ql bb [r]
  have bb2:=Qa bb cw (fun hh=>by have:=no _ hh;omega)
  have h9:VM.one r'=true:=ow.rd.one'
  have h10:r'.cells=#[r']:=ow.rd.cells
  simp [-Qp,-Qx,t4,t6,t7,t8,VM.look,bb,bb1,bb2,hap,hF,h9,h10]
  have gR:=Qi (r':=⟨[.int .i64 w,.int .i64 h,n1,n2,n3,.slice (some ⟨G2.length,0,some 0⟩) K10 0,r',.slice (some ⟨G2.length+1,0,some 0⟩) K5 0,.slice (some ⟨G2.length+2,0,some 0⟩) N 0,.slice (some ⟨G2.length+3,0,some 0⟩) N 0,.int .i64 0],0,38⟩) bb2
  refine ih (K10-(i+1)) _ _ ⟨i+1,r',rfl,by omega,by simp [t4],by simp [t6],by simp [t7],?_,?_,gR,?_,fun j hj=>?_⟩ (by omega)
  ·simp [t8];rw [w64 (by omega) (by omega)]
  ·exact (ch.trans' cw (fun j hj=>.inr (no j hj))).trans' (Qg _ _) (fun j hj=>.inl (by simpa using hj))
  ·rw [List.replicate_succ'];exact ow.chg (Qg _ _) (fun j hj hh=>by
    simp at hh;subst hh
    rcases nw _ hj with h1|h1
    ·have:=no _ h1;omega
    ·have:=ch.1;omega)
  ·rcases nw j hj with h1|h1
   ·exact no j h1
   ·have:=ch.1;omega
 ·have hiK:i=K10:=by omega
  rw [hiK] at oo
  have gR:=Qa bR ch (by simp;omega)
  have hne:H.length≤H.length+2:=by omega
  have on1:=Dt.chg (T:=dMesh) o1 ch (fun j hj hh=>by have:=lt1 j hj;simp at hh;omega)
  have on2:=Dt.chg (T:=dClasses) o2 ch (fun j hj hh=>by have:=ltc j hj;simp at hh;omega)
  have on3:=Dt.chg (T:=dSS) y3 ch (fun j hj hh=>by rw [ssIds] at hj;simp at hj hh;omega)
  have on5:=Dt.chg (T:=dIntS) y5 ch (fun j hj hh=>by simp [dIntS,dFlat] at hj hh;omega)
  have on6:=Dt.chg (T:=dSS) y6 ch (fun j hj hh=>by rw [ssIds] at hj;simp at hj hh;omega)
  have on7:=Dt.chg (T:=dSS) y7 ch (fun j hj hh=>by rw [ssIds] at hj;simp at hj hh;omega)
  have on4:dIntS.Ow G own (List.replicate K10 (-1)):=⟨oo,by simp;omega⟩
  have q4:=Z6 on4
  have hio:ids own=[]∨∃x,ids own=[x]∧G4.length≤x:=by
   rcases oo with ⟨e,_⟩|⟨x,off,r,e,_⟩
   ·left;rw [e];rfl
   ·right;exact ⟨x,by rw [e];rfl,no x (by rw [e];simp [ids])⟩
  have gR2:=Qi (r':=⟨[.int .i64 w,.int .i64 h,n1,n2,n3,.slice (some ⟨G2.length,0,some 0⟩) K10 0,own,.slice (some ⟨G2.length+1,0,some 0⟩) K5 0,.slice (some ⟨G2.length+2,0,some 0⟩) N 0,.slice (some ⟨G2.length+3,0,some 0⟩) N 0,.int .i64 0],0,38⟩) gR
  have hF2:H.length≤H.length+2:=by omega
  simp [t4,t6,t7,t8,e10,VM.look,bb,gR,onen,onen2,q4,hF2,gR2]
  have eR:Chg G (G.set (H.length+2) ⟨[.int .i64 w,.int .i64 h,n1,n2,n3,.slice (some ⟨G2.length,0,some 0⟩) K10 0,own,.slice (some ⟨G2.length+1,0,some 0⟩) K5 0,.slice (some ⟨G2.length+2,0,some 0⟩) N 0,.slice (some ⟨G2.length+3,0,some 0⟩) N 0,.int .i64 0],0,38⟩) [H.length+2]:=Qg _ _
  have on1:=Dt.chg (T:=dMesh) on1 eR (fun j hj hh=>by have:=m1 j hj;simp at hh;omega)
  have on2:=Dt.chg (T:=dClasses) on2 eR (fun j hj hh=>by have:=m2 j hj;simp at hh;omega)
  have on3:=Dt.chg (T:=dSS) on3 eR (fun j hj hh=>by rw [ssIds] at hj;simp at hj hh;omega)
  have on4:=Dt.chg (T:=dIntS) on4 eR (fun j hj hh=>by have:=no j hj;simp at hh;omega)
  have on5:=Dt.chg (T:=dIntS) on5 eR (fun j hj hh=>by simp [dIntS,dFlat] at hj hh;omega)
  have on6:=Dt.chg (T:=dSS) on6 eR (fun j hj hh=>by rw [ssIds] at hj;simp at hj hh;omega)
  have on7:=Dt.chg (T:=dSS) on7 eR (fun j hj hh=>by rw [ssIds] at hj;simp at hj hh;omega)
  have e:netNew (w,h,b) (A,B)=((w,h,b),(A,B),List.replicate K10 [],List.replicate K10 (-1),List.replicate K5 0,List.replicate N [],List.replicate N [],0):=by
   unfold netNew;rw [if_pos g0];simp only [eN,hK5,hK10]
  have rest:∀l,dSS.ids (.slice (some ⟨G2.length,0,some 0⟩) K10 0,List.replicate K10 (.slice none 0 0))++(dIntS.ids own++(dIntS.ids (.slice (some ⟨G2.length+1,0,some 0⟩) K5 0)++(dSS.ids (.slice (some ⟨G2.length+2,0,some 0⟩) N 0,List.replicate N (.slice none 0 0))++(dSS.ids (.slice (some ⟨G2.length+3,0,some 0⟩) N 0,List.replicate N (.slice none 0 0))++[]))))=l→l.Nodup∧∀i∈l,G2.length≤i:=by
   intro l hl
   rw [ssIds,ssIds,ssIds,show dIntS.ids own=ids own from rfl] at hl
   rcases hio with hx|⟨x,hx,hx2⟩<;>rw [hx] at hl<;>simp [dIntS,dFlat] at hl<;>subst hl
   ·refine ⟨by simp,fun i hi=>?_⟩
    simp at hi;omega
   ·refine ⟨by simp;omega,fun i hi=>?_⟩
    simp at hi;omega
  obtain ⟨r1,r2⟩:=rest _ rfl
  refine ⟨_,rfl,(n1,(n2,n3),(.slice (some ⟨G2.length,0,some 0⟩) K10 0,List.replicate K10 (.slice none 0 0)),own,.slice (some ⟨G2.length+1,0,some 0⟩) K5 0,(.slice (some ⟨G2.length+2,0,some 0⟩) N 0,List.replicate N (.slice none 0 0)),(.slice (some ⟨G2.length+3,0,some 0⟩) N 0,List.replicate N (.slice none 0 0)),()),?_,?_,?_,fun i hi=>?_,?_⟩
  ·rw [e];rfl
  ·rw [e];exact ⟨on1,on2,on3,on4,on5,on6,on7,trivial⟩
  ·exact ((cH2.trans c4).trans' ch (fun j hj=>.inr (by simp at hj;omega))).trans' eR (fun j hj=>.inr (by simp at hj;omega))
  ·rcases List.mem_append.1 hi with hi|hi
   ·have:=m1 i hi;omega
   rcases List.mem_append.1 hi with hi|hi
   ·have:=m2 i hi;omega
   have:=r2 i hi;omega
  ·refine Zl d1 (Zl d2 r1 ltc r2) lt1 (fun i hi=>?_)
   rcases List.mem_append.1 hi with hi|hi
   ·exact m2 i hi
   ·have:=r2 i hi;omega
def pkF:Fl PkD:=⟨5,fun a=>[.int .i64 a.1,.int .i64 a.2.1,.int .i64 a.2.2.1,.int .i64 a.2.2.2.1,.int .i64 a.2.2.2.2],fun _=>rfl⟩
@[simp] theorem N6:pkF.n=5:=rfl
theorem Zg (a:PkD):pkF.f a=[.int .i64 a.1,.int .i64 a.2.1,.int .i64 a.2.2.1,.int .i64 a.2.2.2.1,.int .i64 a.2.2.2.2]:=rfl
theorem kw (xs:List PkD):ones (cellsOf pkF xs)=true:=by
 induction xs with
 | nil=>rfl
 | cons a l ih=>rw [Wa];simp [ih,Zg]
abbrev dPk:Dt Value (List PkD):=dFlat pkF 73 1073741824
abbrev ChipD:=NetD×List PkD
abbrev ChipV:=NetV×Value
def dChip:Dt ChipV ChipD:={ dAnd dNet dPk with val:=fun v a=>.agg #[.int .i64 a.1.1.1,.int .i64 a.1.1.2.1,v.1.1,v.1.2.1.1,v.1.2.1.2,v.1.2.2.1.1,v.1.2.2.2.1,v.1.2.2.2.2.1,v.1.2.2.2.2.2.1.1,v.1.2.2.2.2.2.2.1.1,.int .i64 a.1.2.2.2.2.2.2.2,v.2] }
theorem Qo (v:ChipV) (a:ChipD):dChip.val v a=.agg #[.int .i64 a.1.1.1,.int .i64 a.1.1.2.1,v.1.1,v.1.2.1.1,v.1.2.1.2,v.1.2.2.1.1,v.1.2.2.2.1,v.1.2.2.2.2.1,v.1.2.2.2.2.2.1.1,v.1.2.2.2.2.2.2.1.1,.int .i64 a.1.2.2.2.2.2.2.2,v.2]:=rfl
theorem Qy {v:ChipV} {a:ChipD} (h:dChip.Ow H v a):((VM.one v.1.1=true∧v.1.1.cells=#[v.1.1])∧(VM.one v.1.2.1.1=true∧v.1.2.1.1.cells=#[v.1.2.1.1])∧(VM.one v.1.2.1.2=true∧v.1.2.1.2.cells=#[v.1.2.1.2])∧(VM.one v.1.2.2.1.1=true∧v.1.2.2.1.1.cells=#[v.1.2.2.1.1])∧
 (VM.one v.1.2.2.2.1=true∧v.1.2.2.2.1.cells=#[v.1.2.2.2.1])∧(VM.one v.1.2.2.2.2.1=true∧v.1.2.2.2.2.1.cells=#[v.1.2.2.2.2.1])∧(VM.one v.1.2.2.2.2.2.1.1=true∧v.1.2.2.2.2.2.1.1.cells=#[v.1.2.2.2.2.2.1.1])∧(VM.one v.1.2.2.2.2.2.2.1.1=true∧v.1.2.2.2.2.2.2.1.1.cells=#[v.1.2.2.2.2.2.2.1.1]))∧VM.one v.2=true∧v.2.cells=#[v.2]:=
 ⟨Qn h.1,h.2.1.rd.one',h.2.1.rd.cells⟩
end Go.Proofs.YtaldglgobgjeaaaGreat.V
set_option linter.all false
namespace Go.Proofs.YtaldglgobgjeaaaGreat.V
open Go Go.VM Go.Proofs
variable {frz:Nat} {H:Heap}
end Go.Proofs.YtaldglgobgjeaaaGreat.V
set_option linter.all false
namespace Go.Proofs.YtaldglgobgjeaaaGreat.V
open Go Go.VM
set_option maxRecDepth 100000
def geoB:Bool:=(List.range 5).all fun w=>(List.range 5).all fun h=>(List.range 16).all fun a=>(List.range 4).all fun p=>
 decide (next (w:Int) h a p<0) || (decide (next w h (next w h a p) (opp p)=a)&&(decide (0≤opp p)&&(decide (opp p<4)&&(decide (next (w:Int) h a p≠a)&&decide (opp (opp p)=p)))))
theorem Qcd:geoB=true:=by decide +kernel
theorem geo {w h a:Int} {p:Nat} (hp:p<4) (ha:isN w h a) (hu:0≤next w h a p):next w h (next w h a p) (opp p)=a∧0≤opp p∧opp p<4∧next w h a p≠a∧opp (opp p)=p:=by
 obtain ⟨⟨⟨a1,a2⟩,b1,b2⟩,c1,c2,c3⟩:=Yn ha
 have h0:=Qcd
 unfold geoB at h0
 rw [List.all_eq_true] at h0
 have h1:=h0 w.toNat (by simp;omega)
 rw [List.all_eq_true] at h1
 have h2:=h1 h.toNat (by simp;omega)
 rw [List.all_eq_true] at h2
 have h3:=h2 a.toNat (by simp;omega)
 rw [List.all_eq_true] at h3
 have h4:=h3 p (by simp;omega)
 have e1:(w.toNat:Int)=w:=by omega
 have e2:(h.toNat:Int)=h:=by omega
 have e3:(a.toNat:Int)=a:=by omega
 rw [e1,e2,e3] at h4
 simp only [Bool.or_eq_true,Bool.and_eq_true,decide_eq_true_eq] at h4
 rcases h4 with h4|h4
 ·omega
 ·exact h4
theorem Vq {w h:Int} {b:List Int} {a:Int} {p:Nat} (hp:p<4) (h1:link w h b (4*a+p)):∃q:Nat,q<4∧link w h b (4*next w h a p+q)∧next w h (next w h a p) q=a:=by
 obtain ⟨ha,hu,he⟩:=Wi hp h1
 obtain ⟨g1,g2,g3,g4,g5⟩:=geo hp ha hu.1
 have e0:(4*a+(p:Int))%4=p:=by omega
 have hb:backC w h (4*a+p)=4*next w h a p+opp p:=by unfold backC;rw [he,e0]
 have h2:=h1.2
 rw [hb] at h2
 obtain ⟨q,hq⟩:=Int.eq_ofNat_of_zero_le g2
 rw [hq] at g1 g3 g5 h2
 have eq1:(4*next w h a p+(q:Int))/4=next w h a p:=by omega
 have eq2:(4*next w h a p+(q:Int))%4=q:=by omega
 refine ⟨q,by omega,⟨h2,?_⟩,g1⟩
 have:backC w h (4*next w h a p+q)=4*a+p:=by unfold backC endC;rw [eq1,eq2,g1,g5]
 rw [this];exact h1.1
structure VOut (w h:Int) (b:List Int) (a d:Int) (l:List Nat) (x y:List Int×List Int):Prop where
 keep:∀v,0≤v→0≤rd x.1 v→rd y.1 v=rd x.1 v
 new:∀v,isN w h v→rd x.1 v<0→0≤rd y.1 v→rd y.1 v=d∧v∈y.2∧∃p:Nat,p<4∧link w h b (4*a+p)∧next w h a p=v
 all:∀p∈l,link w h b (4*a+(p:Nat))→0≤rd y.1 (next w h a p)
 pre:∀v∈x.2,v∈y.2
 len:y.1.length=x.1.length
theorem Km {w h:Int} {b:List Int} {a d:Int} (hd:0≤d):∀(l:List Nat) (x:List Int×List Int),(∀p∈l,p<4)→(∀v,isN w h v→v<x.1.length)→VOut w h b a d l x (l.foldl (vst w h b a d) x)
 | [],x,_,_=>⟨fun _ _ _=>rfl,fun v _ h1 h2=>by simp only [List.foldl_nil] at h2;omega,fun p hp=>by simp at hp,fun _ h=>h,rfl⟩
 | p::l,x,hl,hlen=>by
  have hp:=hl p (by simp)
  have E:=Kv (w:=w) (h:=h) (b:=b) (a:=a) (x:=x) hp hd
  have ih:=Km (w:=w) (h:=h) (b:=b) (a:=a) hd l (vst w h b a d x p) (fun q hq=>hl q (by simp [hq])) (by rw [E.len];exact hlen)
  refine ⟨fun v h0 h1=>?_,fun v hv h1 h2=>?_,fun q hq hlk=>?_,fun v hv=>ih.pre v (E.pre v hv),by rw [List.foldl_cons,ih.len,E.len]⟩
  ·have e1:=E.old v h0 h1
   rw [List.foldl_cons,ih.keep v h0 (by omega),e1]
  ·by_cases h3:rd (vst w h b a d x p).1 v<0
   ·exact ih.new v hv h3 h2
   ·have h4:0≤rd (vst w h b a d x p).1 v:=by omega
    have e2:=ih.keep v hv.1 h4
    have:link w h b (4*a+p)∧next w h a p=v∧rd (vst w h b a d x p).1 v=d∧v∈(vst w h b a d x p).2:=by
     unfold vst at h4 ⊢
     split at h4
     ·rename_i hc
      rw [if_pos hc]
      obtain ⟨_,hn,_⟩:=Wi hp hc.1
      have hln:=hlen _ hn
      simp only at h4 ⊢
      rw [S7 hn.1 hln hv.1] at h4 ⊢
      by_cases hvn:v=next w h a p
      ·rw [if_pos hvn];exact ⟨hc.1,hvn.symm,rfl,by simp [hvn]⟩
      ·rw [if_neg hvn] at h4;omega
     ·omega
    rw [List.foldl_cons]
    exact ⟨by rw [e2];exact this.2.2.1,ih.pre v this.2.2.2,p,hp,this.1,this.2.1⟩
  ·rcases List.mem_cons.1 hq with rfl|hq
   ·obtain ⟨_,hn,_⟩:=Wi hp hlk
    have hln:=hlen _ hn
    have h4:0≤rd (vst w h b a d x q).1 (next w h a q):=by
     unfold vst
     split
     ·simp only;rw [S7 hn.1 hln hn.1,if_pos rfl];exact hd
     ·rename_i hc
      by_cases h5:rd x.1 (next w h a q)<0
      ·exact absurd ⟨hlk,h5⟩ hc
      ·omega
    rw [List.foldl_cons,ih.keep _ hn.1 h4];exact h4
   ·exact ih.all q hq hlk
structure Inv2 (w h:Int) (b:List Int) (root:Int) (s rest nx:List Int):Prop where
 cl:∀v,isN w h v→0≤rd s v→v∉rest→v∉nx→∀p:Nat,p<4→link w h b (4*v+p)→0≤rd s (next w h v p)
 pre:∀v,isN w h v→0<rd s v→∃u,isN w h u∧rd s u=rd s v-1∧∃q:Nat,q<4∧link w h b (4*u+q)∧next w h u q=v
 zero:rd s root=0∧∀v,isN w h v→rd s v=0→v=root
theorem Run.inv2 {w h root:Int} {b s rest nx r:List Int} {d:Int} (hr:isN w h root) (R:Run w h b s rest nx d r):Inv w h s rest nx d→Inv2 w h b root s rest nx→Inv2 w h b root r [] []:=by
 induction R with
 | done s d=>exact fun _ j=>j
 | level _ ih=>exact fun i j=>ih i.level ⟨fun v hv h0 h1 h2=>j.cl v hv h0 (by simp) h1,j.pre,j.zero⟩
 | @node s a rest nx d r _ ih=>
  intro i j
  have h1:=i.one
  obtain ⟨ha,hda⟩:=i.fr a (by simp)
  have O:VOut w h b a d (List.range 4) (s,nx) (vis w h b a d (s,nx)):=Km (by omega) _ _ (by simp) (fun v hv=>by have:=i.len;have:=hv.2;simp only;omega)
  refine ih i.node ⟨fun v hv h0 hn1 hn2 p hp hlk=>?_,fun v hv h0=>?_,?_,fun v hv h0=>?_⟩
  ·have hnx:=(Wi hp hlk).2.1
   by_cases h2:0≤rd s v
   ·by_cases hva:v=a
    ·subst hva;exact O.all p (by simp;omega) hlk
    ·have h3:=j.cl v hv h2 (by simp [hva,hn1]) (fun hh=>hn2 (O.pre v hh)) p hp hlk
     rw [O.keep _ hnx.1 h3];exact h3
   ·exact absurd (O.new v hv (by simp only;omega) h0).2.1 hn2
  ·by_cases h2:0≤rd s v
   ·have e:=O.keep v hv.1 h2
    simp only at e
    rw [e] at h0 ⊢
    obtain ⟨u,hu,hu1,hq⟩:=j.pre v hv h0
    refine ⟨u,hu,?_,hq⟩
    rw [O.keep u hu.1 (by simp only;omega)];exact hu1
   ·obtain ⟨e,_,hq⟩:=O.new v hv (by simp only;omega) (by omega)
    refine ⟨a,ha,?_,hq⟩
    rw [O.keep a ha.1 (by simp only;omega),e];exact hda
  ·have:=j.zero.1
   rw [O.keep root hr.1 (by simp only;omega)];exact this
  ·by_cases h2:0≤rd s v
   ·have e:=O.keep v hv.1 h2
    simp only at e
    exact j.zero.2 v hv (by rw [← e];exact h0)
   ·obtain ⟨e,_⟩:=O.new v hv (by simp only;omega) (by omega)
    omega
theorem Vc {w h root v:Int} (hr:isN w h root) (hv:isN w h v):rd (start w h root) v=if v=root then 0 else -1:=by
 have hc:=Qf w h
 have h1:=hr.2
 have h2:=hv.2
 unfold start
 rw [S7 hr.1 (by simp;omega) hv.1]
 by_cases h3:v=root
 ·rw [if_pos h3,if_pos h3]
 ·rw [if_neg h3,if_neg h3]
  have:=Vi (s:=List.replicate (cnt w h).toNat (-1:Int)) hv.1 (by simp;omega)
  exact List.eq_of_mem_replicate this
theorem Nq {w h root:Int} (b:List Int) (hr:isN w h root):Inv2 w h b root (start w h root) [root] []:=by
 refine ⟨fun v hv h0 h1=>?_,fun v hv h0=>?_,by rw [Vc hr hr,if_pos rfl],fun v hv h0=>?_⟩
 ·rw [Vc hr hv] at h0
  split at h0
  ·rename_i h2;simp [h2] at h1
  ·omega
 ·rw [Vc hr hv] at h0;split at h0<;>omega
 ·rw [Vc hr hv] at h0
  split at h0
  ·assumption
  ·omega
theorem Wl {w h root:Int} {b:List Int} (H:rootOk w h b root):Inv2 w h b root (depths w h b root) [] []:=
 (Y8 H).inv2 H.2 (Yb H.2).1 (Nq b H.2)
theorem Wm {w h:Int} {b:List Int} (hc:conn w h b) {r:Int} (hr:isN w h r):∀v,isN w h v→0≤rd (depths w h b r) v:=by
 have h0:=Ak hc.1.2
 have H0:rootOk w h b 0:=⟨hc.1,h0⟩
 have Hr:rootOk w h b r:=⟨hc.1,hr⟩
 have i0:=Wg H0
 have j0:=Wl H0
 have j:=Wl Hr
 have all0:∀v,isN w h v→0≤rd (depths w h b 0) v:=fun v hv=>by
  have hm:=Vi (s:=depths w h b 0) hv.1 (by have:=hv.2;omega)
  have:=(i0.2 _ hm).1
  by_cases h1:rd (depths w h b 0) v=-1
  ·rw [h1] at hm;exact absurd hm hc.2
  ·omega
 have down:∀(n:Nat) v,isN w h v→rd (depths w h b 0) v=n→0≤rd (depths w h b r) v→0≤rd (depths w h b r) 0:=by
  intro n
  induction n with
  | zero=>
   intro v hv h1 h2
   have:=j0.zero.2 v hv (by omega)
   rw [this] at h2;exact h2
  | succ n ih=>
   intro v hv h1 h2
   obtain ⟨u,hu,hu1,q,hq,hlk,hnx⟩:=j0.pre v hv (by omega)
   obtain ⟨q',hq',hlk',hnx'⟩:=Vq hq hlk
   rw [hnx] at hlk' hnx'
   have h3:=j.cl v hv h2 (by simp) (by simp) q' hq' hlk'
   rw [hnx'] at h3
   exact ih u hu (by omega) h3
 have hr0:0≤rd (depths w h b r) 0:=by
  have h1:=all0 r hr
  exact down _ r hr (Int.toNat_of_nonneg h1).symm (by have:=j.zero.1;omega)
 have up:∀(n:Nat) v,isN w h v→rd (depths w h b 0) v=n→0≤rd (depths w h b r) v:=by
  intro n
  induction n with
  | zero=>
   intro v hv h1
   have:=j0.zero.2 v hv (by omega)
   rw [this];exact hr0
  | succ n ih=>
   intro v hv h1
   obtain ⟨u,hu,hu1,q,hq,hlk,hnx⟩:=j0.pre v hv (by omega)
   have h3:=j.cl u hu (ih u hu (by omega)) (by simp) (by simp) q hq hlk
   rw [hnx] at h3;exact h3
 exact fun v hv=>up _ v hv (Int.toNat_of_nonneg (all0 v hv)).symm
theorem Ij {w h root:Int} {b:List Int} (H:rootOk w h b root) {v:Int} (hv:isN w h v) (h0:0<rd (depths w h b root) v) :
 ∃p:Nat,p<4∧par w h b (depths w h b root) v=next w h v p∧link w h b (4*v+p)∧rd (depths w h b root) (next w h v p)=rd (depths w h b root) v-1:=by
 rcases Ln w h b (depths w h b root) v with h1|⟨p,hp,h2,h3,_⟩
 ·exfalso
  obtain ⟨u,hu,hu1,q,hq,hlk,hnx⟩:=(Wl H).pre v hv h0
  obtain ⟨q',hq',hlk',hnx'⟩:=Vq hq hlk
  rw [hnx] at hlk' hnx'
  have ht:toRoot w h b (depths w h b root) v q':=⟨hlk',by rw [hnx'];exact hu1⟩
  unfold par at h1
  rw [if_pos h0] at h1
  have nn:∀p:Nat,p<4→toRoot w h b (depths w h b root) v p→next w h v p≠-1:=fun p hp ht hh=>by
   have:=(Wi hp ht.1).2.1.1;omega
  by_cases t0:toRoot w h b (depths w h b root) v 0
  ·rw [if_pos t0] at h1;exact nn 0 (by omega) t0 h1
  rw [if_neg t0] at h1
  by_cases t1:toRoot w h b (depths w h b root) v 1
  ·rw [if_pos t1] at h1;exact nn 1 (by omega) t1 h1
  rw [if_neg t1] at h1
  by_cases t2:toRoot w h b (depths w h b root) v 2
  ·rw [if_pos t2] at h1;exact nn 2 (by omega) t2 h1
  rw [if_neg t2] at h1
  by_cases t3:toRoot w h b (depths w h b root) v 3
  ·rw [if_pos t3] at h1;exact nn 3 (by omega) t3 h1
  have:q'=0∨q'=1∨q'=2∨q'=3:=by omega
  rcases this with rfl|rfl|rfl|rfl
  ·exact t0 ht
  ·exact t1 ht
  ·exact t2 ht
  ·exact t3 ht
 ·exact ⟨p,hp,h2,h3.1,h3.2⟩
theorem N0 {w h root:Int} {b:List Int} {v:Int} (h0:0≤v) (h1:v<(depths w h b root).length):rd (parents w h b root) v=par w h b (depths w h b root) v:=by
 obtain ⟨i,rfl⟩:=Int.eq_ofNat_of_zero_le h0
 rw [Zi (by rw [X1];omega)]
 simp [parents,pars]
section
variable {w h r:Int} {b:List Int} (hc:conn w h b) (hr:isN w h r)
include hc hr
theorem Fb:((parents w h b r).length:Int)=cnt w h:=by rw [X1];exact (Wg ⟨hc.1,hr⟩).1
theorem Yk {v:Int} (hv:isN w h v):(v=r∧rd (parents w h b r) v=-1)∨∃p:Nat,p<4∧rd (parents w h b r) v=next w h v p∧link w h b (4*v+p)∧isN w h (next w h v p)∧rd (depths w h b r) (next w h v p)=rd (depths w h b r) v-1:=by
 have H:rootOk w h b r:=⟨hc.1,hr⟩
 have hl:=(Wg H).1
 have hv2:=hv.2
 rw [N0 hv.1 (by omega)]
 have h0:=Wm hc hr v hv
 by_cases h1:rd (depths w h b r) v=0
 ·refine .inl ⟨(Wl H).zero.2 v hv h1,?_⟩
  unfold par;rw [if_neg (by omega)]
 ·obtain ⟨p,hp,h2,h3,h4⟩:=Ij H hv (by omega)
  exact .inr ⟨p,hp,h2,h3,(Wi hp h3).2.1,h4⟩
theorem Yg {v:Int} (hv:isN w h v):anc (parents w h b r) v=v::(if rd (parents w h b r) v=-1 then [] else anc (parents w h b r) (rd (parents w h b r) v)):=by
 have:=Fb hc hr
 exact Ei (Sq ⟨hc.1,hr⟩) hv.1 (by have:=hv.2;omega)
theorem Ve:∀(n:Nat) {v:Int},isN w h v→rd (depths w h b r) v=n→r∈anc (parents w h b r) v:=by
 intro n
 induction n with
 | zero=>
  intro v hv h0
  rw [Yg hc hr hv]
  have:=(Wl ⟨hc.1,hr⟩).zero.2 v hv (by omega)
  simp [this]
 | succ n ih=>
  intro v hv h0
  rw [Yg hc hr hv]
  rcases Yk hc hr hv with ⟨h1,_⟩|⟨p,hp,h2,h3,h4,h5⟩
  ·simp [h1]
  ·rw [h2,if_neg (by have:=h4.1;omega)]
   exact List.mem_cons_of_mem _ (ih h4 (by omega))
theorem K8:∀(n:Nat) {v:Int},isN w h v→rd (depths w h b r) v=n→∀(j:Nat) (hj:j+1<(anc (parents w h b r) v).length),isN w h (anc (parents w h b r) v)[j]∧isN w h (anc (parents w h b r) v)[j+1]∧
 ∃p:Nat,p<4∧next w h (anc (parents w h b r) v)[j] p=(anc (parents w h b r) v)[j+1]∧link w h b (4*(anc (parents w h b r) v)[j]+p):=by
 intro n
 induction n with
 | zero=>
  intro v hv h0 j hj
  have hroot:=(Wl ⟨hc.1,hr⟩).zero.2 v hv (by omega)
  have e:=Yg hc hr hv
  rcases Yk hc hr hv with ⟨_,h1⟩|⟨p,hp,h2,h3,h4,h5⟩
  ·rw [h1,if_pos rfl] at e;rw [e] at hj;simp at hj
  ·have:=Wm hc hr _ h4;omega
 | succ n ih=>
  intro v hv h0 j hj
  have e:=Yg hc hr hv
  rcases Yk hc hr hv with ⟨_,h1⟩|⟨p,hp,h2,h3,h4,h5⟩
  ·rw [h1,if_pos rfl] at e;rw [e] at hj;simp at hj
  ·rw [h2,if_neg (by have:=h4.1;omega)] at e
   have e2:=Yg hc hr h4
   cases j with
   | zero=>
    simp only [e]
    simp only [List.getElem_cons_zero,List.getElem_cons_succ]
    have e3:(anc (parents w h b r) (next w h v p))[0]'(by rw [e2];simp)=next w h v p:=by simp only [e2,List.getElem_cons_zero]
    rw [e3]
    exact ⟨hv,h4,p,hp,rfl,h3⟩
   | succ j=>
    simp only [e] at hj ⊢
    simp only [List.getElem_cons_succ]
    exact ih h4 (by omega) j (by simpa using hj)
theorem jc {a c:Int} (ha:isN w h a) (hcn:isN w h c) (hne:a≠c):∃p:Nat,p<4∧1<(treeNodes (parents w h b r) a c).length∧(treeNodes (parents w h b r) a c)[1]? = some (next w h a p)∧0≤next w h a p:=by
 have dn:=fun {v:Int} (hv:isN w h v)=>(Int.toNat_of_nonneg (Wm hc hr v hv)).symm
 have ra:=Ve hc hr _ ha (dn ha)
 have rc:=Ve hc hr _ hcn (dn hcn)
 have hcom:0≤common (parents w h b r) a c:=by
  unfold common
  cases hf:(anc (parents w h b r) a).find? (fun x=>decide (x∈anc (parents w h b r) c)) with
  | none=>rw [List.find?_eq_none] at hf;exact absurd (by simpa using rc) (hf r ra)
  | some u=>
   have:=Qea (List.mem_of_find?_eq_some hf)
   simpa using this.1
 obtain ⟨ma,mc⟩:=Z8 hcom
 have ga:=K8 hc hr _ ha (dn ha)
 have gc:=K8 hc hr _ hcn (dn hcn)
 have ea:=Yg hc hr ha
 have ec:=Yg hc hr hcn
 unfold treeNodes
 rw [if_neg (by omega)]
 have ia:=List.idxOf_lt_length_iff.2 ma
 have ic:=List.idxOf_lt_length_iff.2 mc
 have va:(anc (parents w h b r) a)[(anc (parents w h b r) a).idxOf (common (parents w h b r) a c)]=common (parents w h b r) a c:=by
  have:=List.findIdx_getElem (p:=(· == common (parents w h b r) a c)) (xs:=anc (parents w h b r) a) (w:=ia)
  simpa using this
 have vc:(anc (parents w h b r) c)[(anc (parents w h b r) c).idxOf (common (parents w h b r) a c)]=common (parents w h b r) a c:=by
  have:=List.findIdx_getElem (p:=(· == common (parents w h b r) a c)) (xs:=anc (parents w h b r) c) (w:=ic)
  simpa using this
 generalize (anc (parents w h b r) a).idxOf (common (parents w h b r) a c)=ka at *
 generalize (anc (parents w h b r) c).idxOf (common (parents w h b r) a c)=kc at *
 have a0:(anc (parents w h b r) a)[0]'(by omega)=a:=by simp only [ea,List.getElem_cons_zero]
 have c0:(anc (parents w h b r) c)[0]'(by omega)=c:=by simp only [ec,List.getElem_cons_zero]
 by_cases hk:ka=0
 ·subst hk
  rw [a0] at va
  have hkc:kc≠0:=fun hh=>by subst hh;rw [c0] at vc;exact hne (va.trans vc.symm)
  obtain ⟨j,rfl⟩:∃j,kc=j+1:=⟨kc-1,by omega⟩
  obtain ⟨n1,n2,p,hp,hnx,hlk⟩:=gc j ic
  rw [vc,← va] at hnx
  obtain ⟨g1,g2,g3,_⟩:=geo hp n1 (by rw [hnx];exact ha.1)
  rw [hnx] at g1
  obtain ⟨q,hq⟩:=Int.eq_ofNat_of_zero_le g2
  rw [hq] at g1 g3
  refine ⟨q,by omega,by simp;omega,?_,by rw [g1];exact n1.1⟩
  rw [g1]
  have e1:((anc (parents w h b r) a).take (0+1))=[a]:=by rw [ea];rfl
  have e2:(anc (parents w h b r) c).take (j+1)=(anc (parents w h b r) c).take j++[(anc (parents w h b r) c)[j]]:=List.take_succ_eq_append_getElem (by omega)
  rw [e1,List.getElem?_append_right (by simp)]
  rw [e2,List.reverse_append];rfl
 ·obtain ⟨n1,n2,p,hp,hnx,hlk⟩:=ga 0 (by omega)
  rw [a0] at hnx
  refine ⟨p,hp,by simp;omega,?_,by rw [hnx];exact n2.1⟩
  rw [List.getElem?_append_left (by simp;omega),List.getElem?_take,if_pos (by omega),List.getElem?_eq_getElem (by omega),hnx]
end
end Go.Proofs.YtaldglgobgjeaaaGreat.V
set_option linter.all false
namespace Go.Proofs.YtaldglgobgjeaaaGreat.V
open Go Go.VM Go.Proofs
set_option maxRecDepth 10000
variable {frz:Nat} {H:Heap}
def firstPort (w h a u:Int):Int:=if next w h a 0=u then 0 else if next w h a 1=u then 1 else if next w h a 2=u then 2 else if next w h a 3=u then 3 else 4
theorem Sb {w h a u:Int} {p:Nat} (hp:p<4) (h1:next w h a p=u) (h2:∀q<p,next w h a (q:Nat)≠u):firstPort w h a u=p:=by
 unfold firstPort
 have:p=0∨p=1∨p=2∨p=3:=by omega
 have g:∀q:Nat,q<p→∀z:Int,z=q→¬next w h a z=u:=fun q hq z hz=>by rw [hz];exact h2 q hq
 rcases this with rfl|rfl|rfl|rfl
 ·rw [if_pos (by exact_mod_cast h1)];rfl
 ·rw [if_neg (g 0 (by omega) 0 rfl),if_pos (by exact_mod_cast h1)];rfl
 ·rw [if_neg (g 0 (by omega) 0 rfl),if_neg (g 1 (by omega) 1 rfl),if_pos (by exact_mod_cast h1)];rfl
 ·rw [if_neg (g 0 (by omega) 0 rfl),if_neg (g 1 (by omega) 1 rfl),if_neg (g 2 (by omega) 2 rfl),if_pos (by exact_mod_cast h1)];rfl
theorem yq (w h a u:Int) (p:Nat) (hp:p<4) (h1:next w h a p=u) :
 vcall C frz 108 [.agg #[.int .i64 w,.int .i64 h],.int .i64 a,.int .i64 u] H=some (.int .i64 (firstPort w h a u),H):=by
 rw [Qb (fn:=Tryz.f108) Tryz.func108 rfl (by kernel_rfl) rfl]
 simp
 refine Xy (fun n t H'=>∃k:Nat,n=p-k∧k≤p∧t 1=.int .i64 a∧t 2=.int .i64 u∧t 3=.pointer (some ⟨H.length,0,some 0⟩)∧t 7=.int .i64 k∧H'=H++[⟨[.int .i64 w,.int .i64 h],0,25⟩]∧∀q<k,next w h a (q:Nat)≠u) ?_ (n:=p) ⟨0,by simp⟩
 rintro n t H' ⟨k,rfl,hk,k1,k2,k3,k7,rfl,hq⟩ ih
 simp [k1,k2,k3,k7,Tw]
 refine Qq _ ?_ ?_<;>intro h5
 ·simp [k1,k2,k3,k7]
  exact (Sb (by omega) h5 hq).symm
 ·have hkp:k≠p:=fun hh=>h5 (by rw [hh];exact h1)
  simp [k1,k2,k3,k7,h5]
  refine ih (p-(k+1)) _ _ ⟨k+1,rfl,by omega,by simp [k1],by simp [k2],by simp [k3],?_,rfl,fun q hq'=>?_⟩ (by omega)
  ·simp;rw [w64 (by omega) (by omega)]
  ·by_cases hqk:q<k
   ·exact hq q hqk
   ·have:q=k:=by omega
    rw [this];exact h5
noncomputable def treePort (w h:Int) (P:List Int) (n i:Nat):Int:=if i/n=i%n then 4 else firstPort w h (i/n:Nat) ((treeNodes P (i/n:Nat) (i%n:Nat)).getD 1 0)
noncomputable def treeTab (w h:Int) (b:List Int) (r:Int):List Int:=(List.range ((cnt w h).toNat*(cnt w h).toNat)).map (treePort w h (parents w h b r) (cnt w h).toNat)
def treeOk (w h:Int) (b:List Int) (r:Int):Prop:=conn w h b∧isN w h r
noncomputable instance (w h:Int) (b:List Int) (r:Int):Decidable (treeOk w h b r):=inferInstanceAs (Decidable (_∧_))
noncomputable def treeTable (w h:Int) (b:List Int) (r:Int):List Int:=if treeOk w h b r then treeTab w h b r else []
theorem Fh (w h:Int) (b:List Int) (r:Int):(treeTab w h b r).length≤256:=by
 have:=Qf w h
 unfold treeTab
 rw [List.length_map,List.length_range]
 have:(cnt w h).toNat*(cnt w h).toNat≤16*16:=Nat.mul_le_mul (by omega) (by omega)
 omega
theorem Mt (w h:Int) (b:List Int) (r:Int):(treeTable w h b r).length≤256:=by
 unfold treeTable;split
 ·exact Fh w h b r
 ·simp
theorem Gb (w h:Int) (v:Value) (b:List Int) (root:Int) (hI:IsI H v b) (hl:b.length≤1073741824) :
 wp (vcall C frz 72 [.agg #[.int .i64 w,.int .i64 h,v],.int .i64 root] H) (Made2 dTable H (treeTable w h b root) (decide (treeOk w h b root))):=by
 rw [Qb (fn:=Tryz.f72) Tryz.func72 rfl (by kernel_rfl) rfl]
 have one:=And.intro hI.one' hI.cells
 have hc:=Qf w h
 have no:∀(L:Heap),¬treeOk w h b root→Made2 dTable H (treeTable w h b root) (decide (treeOk w h b root)) (.tuple #[.agg #[.slice none 0 0],.bool false]) (H++L):=fun L hh=>by
  refine ⟨.agg #[.slice none 0 0],by simp [hh],.slice none 0 0,rfl,⟨.inl ⟨rfl,by simp [treeTable,hh]⟩,?_⟩,Chg.app _,by simp [dTable],by simp [dTable]⟩
  simp [treeTable,hh]
 by_cases hcn:conn w h b
 ·by_cases hr:isN w h root
  ·have hok:treeOk w h b root:=⟨hcn,hr⟩
   simp [one,Yf _ _ _ _ (hI.app _) hl,hcn,W4,hr]
   refine Qd (Mo w h v b root (hI.app _) hl) ?_
   rintro vp H1 ⟨L,hH1,op,np⟩
   have hpl:=Fb hcn hr
   have tn:=fun {a c:Int} (ha:isN w h a) (hc:isN w h c) (hne:a≠c)=>jc hcn hr ha hc hne
   have ett:treeTable w h b root=(List.range ((cnt w h).toNat*(cnt w h).toNat)).map (treePort w h (parents w h b root) (cnt w h).toNat):=if_pos hok
   have hcc:(cnt w h).toNat≤16:=by omega
   have hlt2:(cnt w h).toNat*(cnt w h).toNat≤256:=Nat.mul_le_mul hcc hcc
   rw [ett]
   generalize parents w h b root=P at *
   have c1:Chg H H1 []:=by rw [hH1];exact (Chg.app []).trans (Chg.app [])
   have b2:H1[H.length]? = some ⟨[.int .i64 w,.int .i64 h,v],0,28⟩:=by rw [hH1];simp
   have b4:H1[H.length+1]? = some ⟨[.slice none 0 0],0,30⟩:=by rw [hH1];simp
   rw [← hH1] at op
   simp at np
   have lp:=op.lt
   have l1:H.length+2≤H1.length:=by rw [hH1];simp
   clear hH1 L
   have lp1:=op.lt
   generalize hB6:H1.length=B6 at *
   have hPl:P.length=(cnt w h).toNat:=by omega
   simp [VM.look,b2,one,hB6,(op.app (L:=[⟨[.slice none 0 0],0,30⟩])).rd.len]
   refine X4 (by omega) ?_
   refine Qh (fun n t H'=>∃(i:Nat) (vo:Value) (o:List Int),n=(cnt w h).toNat-i∧i≤(cnt w h).toNat∧o=(List.range (i*(cnt w h).toNat)).map (treePort w h P (cnt w h).toNat)∧
   t 2=.pointer (some ⟨H.length,0,some 0⟩)∧t 4=.pointer (some ⟨H.length+1,0,some 0⟩)∧t 6=.pointer (some ⟨B6,0,some 0⟩)∧t 7=vp∧t 27=.int .i64 P.length∧t 28=.int .i64 i∧
   Chg H H' []∧H'[H.length]? = some ⟨[.int .i64 w,.int .i64 h,v],0,28⟩∧H'[H.length+1]? = some ⟨[.slice none 0 0],0,30⟩∧H'[B6]? = some ⟨[vo],0,30⟩∧
   Ow Fl.int 3 H' vp P∧Ow Fl.int 3 H' vo o∧(∀i∈ids vo,B6<i)) ?_ (n:=(cnt w h).toNat)
    ⟨0,.slice none 0 0,[],by simp,by omega,by simp,by simp,by simp,by simp,by simp,by simp,by simp,c1.trans (Chg.app []),Ql b2 _,Ql b4 _,by rw [← hB6];simp,op.app,.inl ⟨rfl,rfl⟩,by simp⟩
   clear b2 b4 op
   rintro n t H' ⟨i,vo,o,rfl,hi,ho,h2,h4,h6,h7,h27,h28,c0,b2,b4,b6,op,oo,no⟩ ih
   simp [h2,h4,h6,h7,h27,h28]
   refine Qc ?_ ?_<;>intro hin
   ·have hin':i<(cnt w h).toNat:=by omega
    simp [h2,h4,h6,h7,h27,h28,op.rd.len]
    refine Qh (fun n t H'=>∃(j:Nat) (vo:Value) (o:List Int),n=(cnt w h).toNat-j∧j≤(cnt w h).toNat∧o=(List.range (i*(cnt w h).toNat+j)).map (treePort w h P (cnt w h).toNat)∧
     t 2=.pointer (some ⟨H.length,0,some 0⟩)∧t 4=.pointer (some ⟨H.length+1,0,some 0⟩)∧t 6=.pointer (some ⟨B6,0,some 0⟩)∧t 7=vp∧t 27=.int .i64 P.length∧t 28=.int .i64 i∧
     t 8=.int .i64 i∧t 32=.int .i64 P.length∧t 33=.int .i64 j∧
     Chg H H' []∧H'[H.length]? = some ⟨[.int .i64 w,.int .i64 h,v],0,28⟩∧H'[H.length+1]? = some ⟨[.slice none 0 0],0,30⟩∧H'[B6]? = some ⟨[vo],0,30⟩∧
   Ow Fl.int 3 H' vp P∧Ow Fl.int 3 H' vo o∧(∀i∈ids vo,B6<i)) ?_ (n:=(cnt w h).toNat) ⟨0,vo,o,by simp,by omega,by simpa using ho,by simp [h2],by simp [h4],by simp [h6],by simp [h7],by simp [h27],by simp [h28],by simp,by simp,by simp,c0,b2,b4,b6,op,oo,no⟩
    clear h2 h4 h6 h7 h27 h28 c0 b2 b4 b6 op oo no ho
    rintro n t H' ⟨j,vo,o,rfl,hj,ho,h2,h4,h6,h7,h27,h28,h8,h32,h33,c0,b2,b4,b6,op,oo,no⟩ ih2
    simp [h2,h4,h6,h7,h27,h28,h8,h32,h33]
    refine Qc ?_ ?_<;>intro hjn
    ·have hjn':j<(cnt w h).toNat:=by omega
     have hol:o.length=i*(cnt w h).toNat+j:=by rw [ho];simp
     have hsm:i*(cnt w h).toNat+j<(cnt w h).toNat*(cnt w h).toNat:=by
      have:=Nat.mul_le_mul_right (cnt w h).toNat (show i+1≤(cnt w h).toNat by omega)
      rw [Nat.succ_mul] at this;omega
     have hdv:(i*(cnt w h).toNat+j)/(cnt w h).toNat=i:=by rw [Nat.mul_comm,Nat.mul_add_div (by omega),Nat.div_eq_of_lt hjn'];omega
     have hmd:(i*(cnt w h).toNat+j)%(cnt w h).toNat=j:=by rw [Nat.mul_comm,Nat.mul_add_mod,Nat.mod_eq_of_lt hjn']
     simp [h2,h4,h6,h7,h27,h28,h8,h32,h33]
     refine Qc ?_ ?_<;>intro hij
     ·have hx:treePort w h P (cnt w h).toNat (i*(cnt w h).toNat+j)=4:=by unfold treePort;rw [hdv,hmd,if_pos (by omega)]
      simp [VM.look,b6,h2,h4,h6,h7,h27,h28,h8,h32,h33]
      obtain ⟨vo',H3,e3,oo3,c3,n3⟩:=oo.push (P:=Tryz.prog) (frz:=H.length) (ty:=26) (a:=4) (by simp) rfl (by omega) (fun i hi=>by have:=no i hi;omega)
      simp only [Fl.int_f] at e3
      have lc:=Qs b6
      have b2:=Qa b2 c3 (fun hh=>by have:=no _ hh;omega)
      have b4:=Qa b4 c3 (fun hh=>by have:=no _ hh;omega)
      have b6:=Qa b6 c3 (fun hh=>by have:=no _ hh;omega)
      have op:=op.chg c3 (fun i hi hh=>by have:=lp i hi;have:=no _ hh;omega)
      have no3:∀i∈ids vo',B6<i:=fun i hi=>by rcases n3 i hi with h|h;exact no i h;omega
      have one3:=And.intro oo3.rd.one' oo3.rd.cells
      simp [e3,VM.look,b6,one3,h2,h4,h6,h7,h27,h28,h8,h32,h33]
      refine X4 (by omega) ?_
      refine ih2 ((cnt w h).toNat-(j+1)) _ _ ⟨j+1,vo',o++[4],rfl,by omega,?_,by simp [h2],by simp [h4],by simp [h6],by simp [h7],by simp [h27],by simp [h28],by simp [h8],by simp [h32],?_,
       (c0.trans' c3 (fun i hi=>.inr (by have:=no i hi;omega))).trans' (Qg _ _) (fun i hi=>.inr (by simp at hi;omega)),Qa b2 (Qg _ _) (by simp;omega),Qa b4 (Qg _ _) (by simp;omega),Qi b6,
       op.chg (Qg _ _) (fun i hi hh=>by have:=lp i hi;simp at hh;omega),oo3.chg (Qg _ _) (fun i hi hh=>by have:=no3 i hi;simp at hh;omega),no3⟩ (by omega)
      ·rw [← Nat.add_assoc,List.range_succ,List.map_append,← ho];simp [hx]
      ·simp;rw [w64 (by omega) (by omega)]
     ·rw [Qe (h:=by kernel_rfl)]
      simp [h2,h4,h6,h7,h27,h28,h8,h32,h33,VM.look,b2]
      obtain ⟨p,hp,htl,htg,hn0⟩:=tn (Wc hin') (Wc hjn') (by omega:(i:Int)≠(j:Int))
      refine Qd (Fv vp P i j op.rd.isI (by omega)) ?_
      rintro vt H2 ⟨L2,hH2,ot,nt⟩
      have c2:Chg H' H2 []:=by rw [hH2];exact Chg.app []
      rw [← hH2] at ot
      clear hH2 L2
      have b2:=Qa b2 c2 (by simp)
      have b4:=Qa b4 c2 (by simp)
      have b6:=Qa b6 c2 (by simp)
      have op:=op.chg c2 (by simp)
      have oo:=oo.chg c2 (by simp)
      have c0:=c0.trans c2
      have q1:=ot.rd.isI.idx (P:=Tryz.prog) (ty:=26) (e:=3) (by simp) (i:=1) (by omega) (by omega)
      have q2:=ot.rd.isI.load (P:=Tryz.prog) (e:=3) (by simp) htl
      have etn:(treeNodes P (i:Int) (j:Int)).getD 1 0=next w h i p:=by rw [List.getD_eq_getElem?_getD,htg];rfl
      have hpt:=fun F L=>yq (frz:=F) (H:=L) w h i _ p hp etn.symm
      have hx:treePort w h P (cnt w h).toNat (i*(cnt w h).toNat+j)=firstPort w h i ((treeNodes P i j).getD 1 0):=by unfold treePort;rw [hdv,hmd,if_neg (by omega)]
      have q1':vindexAddr Tryz.prog H2 26 vt (.int .i64 1)=some (elp vt 1):=q1
      generalize (treeNodes P (i:Int) (j:Int)).getD 1 0=u at *
      generalize firstPort w h (i:Int) u=y at *
      simp [q1',q2,hpt,h2,h4,h6,h7,h27,h28,h8,h32,h33]
      simp [VM.look,b6,h2,h4,h6,h7,h27,h28,h8,h32,h33]
      obtain ⟨vo',H3,e3,oo3,c3,n3⟩:=oo.push (P:=Tryz.prog) (frz:=H.length) (ty:=26) (a:=y) (by simp) rfl (by omega) (fun i hi=>by have:=no i hi;omega)
      simp only [Fl.int_f] at e3
      have lc:=Qs b6
      have b2:=Qa b2 c3 (fun hh=>by have:=no _ hh;omega)
      have b4:=Qa b4 c3 (fun hh=>by have:=no _ hh;omega)
      have b6:=Qa b6 c3 (fun hh=>by have:=no _ hh;omega)
      have op:=op.chg c3 (fun i hi hh=>by have:=lp i hi;have:=no _ hh;omega)
      have no3:∀i∈ids vo',B6<i:=fun i hi=>by rcases n3 i hi with h|h;exact no i h;omega
      have one3:=And.intro oo3.rd.one' oo3.rd.cells
      simp [e3,VM.look,b6,one3,h2,h4,h6,h7,h27,h28,h8,h32,h33]
      refine X4 (by omega) ?_
      refine ih2 ((cnt w h).toNat-(j+1)) _ _ ⟨j+1,vo',o++[y],rfl,by omega,?_,by simp [h2],by simp [h4],by simp [h6],by simp [h7],by simp [h27],by simp [h28],by simp [h8],by simp [h32],?_,
       (c0.trans' c3 (fun i hi=>.inr (by have:=no i hi;omega))).trans' (Qg _ _) (fun i hi=>.inr (by simp at hi;omega)),Qa b2 (Qg _ _) (by simp;omega),Qa b4 (Qg _ _) (by simp;omega),Qi b6,
       op.chg (Qg _ _) (fun i hi hh=>by have:=lp i hi;simp at hh;omega),oo3.chg (Qg _ _) (fun i hi hh=>by have:=no3 i hi;simp at hh;omega),no3⟩ (by omega)
      ·rw [← Nat.add_assoc,List.range_succ,List.map_append,← ho];simp [hx]
      ·simp;rw [w64 (by omega) (by omega)]
    ·have hjn2:j=(cnt w h).toNat:=by omega
     have hjn':¬j<P.length:=by omega
     simp [h2,h4,h6,h7,h27,h28,h8,h32,h33]
     refine ih ((cnt w h).toNat-(i+1)) _ _ ⟨i+1,vo,o,rfl,by omega,by rw [ho,hjn2,Nat.succ_mul],by simp [h2],by simp [h4],by simp [h6],by simp [h7],by simp [h27],?_,c0,b2,b4,b6,op,oo,no⟩ (by omega)
     simp;rw [w64 (by omega) (by omega)]
   ·have hi2:i=(cnt w h).toNat:=by omega
    have l4:=Qs b4
    rw [hi2] at ho
    rw [ho] at oo
    have l5:∀i∈ids vo,i∉[H.length+1]:=fun i hi hh=>by have:=no i hi;simp at hh;omega
    have g4:=Qi (r':=⟨[vo],0,30⟩) b4
    simp [h2,h4,h6,h7,h27,h28,VM.look,b4,b6,oo.rd.one',oo.rd.cells,g4]
    refine ⟨.agg #[vo],by simp [hok],vo,rfl,⟨oo.chg (Qg _ _) l5,by simp;omega⟩,c0.trans' (Qg _ _) (fun i hi=>.inr (by simp at hi;omega)),fun i hi=>by have:=no i hi;omega,Q0 vo⟩
  ·simp [one,Yf _ _ _ _ (hI.app _) hl,hcn,W4,hr]
   exact no _ (fun hh=>hr hh.2)
 ·simp [one,Yf _ _ _ _ (hI.app _) hl,hcn]
  exact no _ (fun hh=>hcn hh.1)
end Go.Proofs.YtaldglgobgjeaaaGreat.V
