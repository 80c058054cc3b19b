/- Texts of a proof, joined. -/
import Derived.Test.YtaldglgobgjeaaaGreatProg
import Derived.KernelRfl
import Derived.Test.YtaldglgobgjeaaaGreatKM0
import Derived.Test.YtaldglgobgjeaaaGreatKM1
namespace Go.Proofs.YtaldglgobgjeaaaGreat.V
open Go Go.VM Go.Proofs
noncomputable def C:Ctx:={ P:=Tryz.prog,mode:=fun g=>if [23,25,26,33,47,54,56,57,67,71,81,84,92,95,104,134,135,136,137,138,139,141,142,149,158,160,161,168,172,174,175,176,186,187,189,194,197,205,206,207,208,209,210,211,212,218,219,220,221].contains g then 2 else if [6,7,8,9,10,11,12,18,19,22,24,29,30,31,34,36,37,38,43,46,49,50,53,60,61,62,65,72,76,77,79,80,86,88,89,98,99,107,109,112,113,114,115,116,118,119,121,123,124,125,130,145,157,159,163,164,165,166,169,184,185,188,217].contains g then 1 else 0,ext:=fun _=>none }
@[simp] theorem CP:C.P=Tryz.prog:=rfl
theorem drawn:DrawOk C:=Lp C (by kernel_rfl)
@[simp] theorem mode0:C.mode 0=0:=rfl
@[simp] theorem mode1:C.mode 1=0:=rfl
@[simp] theorem mode2:C.mode 2=0:=rfl
@[simp] theorem mode3:C.mode 3=0:=rfl
@[simp] theorem mode4:C.mode 4=0:=rfl
@[simp] theorem mode5:C.mode 5=0:=rfl
@[simp] theorem mode6:C.mode 6=1:=rfl
@[simp] theorem mode7:C.mode 7=1:=rfl
@[simp] theorem mode8:C.mode 8=1:=rfl
@[simp] theorem mode9:C.mode 9=1:=rfl
@[simp] theorem mode10:C.mode 10=1:=rfl
@[simp] theorem mode11:C.mode 11=1:=rfl
@[simp] theorem mode12:C.mode 12=1:=rfl
@[simp] theorem mode13:C.mode 13=0:=rfl
@[simp] theorem mode14:C.mode 14=0:=rfl
@[simp] theorem mode15:C.mode 15=0:=rfl
@[simp] theorem mode16:C.mode 16=0:=rfl
@[simp] theorem mode17:C.mode 17=0:=rfl
@[simp] theorem mode18:C.mode 18=1:=rfl
@[simp] theorem mode19:C.mode 19=1:=rfl
@[simp] theorem mode20:C.mode 20=0:=rfl
@[simp] theorem mode21:C.mode 21=0:=rfl
@[simp] theorem mode22:C.mode 22=1:=rfl
@[simp] theorem mode23:C.mode 23=2:=rfl
@[simp] theorem mode24:C.mode 24=1:=rfl
@[simp] theorem mode25:C.mode 25=2:=rfl
@[simp] theorem mode26:C.mode 26=2:=rfl
@[simp] theorem mode27:C.mode 27=0:=rfl
@[simp] theorem mode28:C.mode 28=0:=rfl
@[simp] theorem mode29:C.mode 29=1:=rfl
@[simp] theorem mode30:C.mode 30=1:=rfl
@[simp] theorem mode31:C.mode 31=1:=rfl
@[simp] theorem mode32:C.mode 32=0:=rfl
@[simp] theorem mode33:C.mode 33=2:=rfl
@[simp] theorem mode34:C.mode 34=1:=rfl
@[simp] theorem mode35:C.mode 35=0:=rfl
@[simp] theorem mode36:C.mode 36=1:=rfl
@[simp] theorem mode37:C.mode 37=1:=rfl
@[simp] theorem mode38:C.mode 38=1:=rfl
@[simp] theorem mode39:C.mode 39=0:=rfl
@[simp] theorem mode40:C.mode 40=0:=rfl
@[simp] theorem mode41:C.mode 41=0:=rfl
@[simp] theorem mode42:C.mode 42=0:=rfl
@[simp] theorem mode43:C.mode 43=1:=rfl
@[simp] theorem mode44:C.mode 44=0:=rfl
@[simp] theorem mode45:C.mode 45=0:=rfl
@[simp] theorem mode46:C.mode 46=1:=rfl
@[simp] theorem mode47:C.mode 47=2:=rfl
@[simp] theorem mode48:C.mode 48=0:=rfl
@[simp] theorem mode49:C.mode 49=1:=rfl
@[simp] theorem mode50:C.mode 50=1:=rfl
@[simp] theorem mode51:C.mode 51=0:=rfl
@[simp] theorem mode52:C.mode 52=0:=rfl
@[simp] theorem mode53:C.mode 53=1:=rfl
@[simp] theorem mode54:C.mode 54=2:=rfl
@[simp] theorem mode55:C.mode 55=0:=rfl
@[simp] theorem mode56:C.mode 56=2:=rfl
@[simp] theorem mode57:C.mode 57=2:=rfl
@[simp] theorem mode58:C.mode 58=0:=rfl
@[simp] theorem mode59:C.mode 59=0:=rfl
@[simp] theorem mode60:C.mode 60=1:=rfl
@[simp] theorem mode61:C.mode 61=1:=rfl
@[simp] theorem mode62:C.mode 62=1:=rfl
@[simp] theorem mode63:C.mode 63=0:=rfl
@[simp] theorem mode64:C.mode 64=0:=rfl
@[simp] theorem mode65:C.mode 65=1:=rfl
@[simp] theorem mode66:C.mode 66=0:=rfl
@[simp] theorem mode67:C.mode 67=2:=rfl
@[simp] theorem mode68:C.mode 68=0:=rfl
@[simp] theorem mode69:C.mode 69=0:=rfl
@[simp] theorem mode70:C.mode 70=0:=rfl
@[simp] theorem mode71:C.mode 71=2:=rfl
@[simp] theorem mode72:C.mode 72=1:=rfl
@[simp] theorem mode73:C.mode 73=0:=rfl
@[simp] theorem mode74:C.mode 74=0:=rfl
@[simp] theorem mode75:C.mode 75=0:=rfl
@[simp] theorem mode76:C.mode 76=1:=rfl
@[simp] theorem mode77:C.mode 77=1:=rfl
@[simp] theorem mode78:C.mode 78=0:=rfl
@[simp] theorem mode79:C.mode 79=1:=rfl
@[simp] theorem mode80:C.mode 80=1:=rfl
@[simp] theorem mode81:C.mode 81=2:=rfl
@[simp] theorem mode82:C.mode 82=0:=rfl
@[simp] theorem mode83:C.mode 83=0:=rfl
@[simp] theorem mode84:C.mode 84=2:=rfl
@[simp] theorem mode85:C.mode 85=0:=rfl
@[simp] theorem mode86:C.mode 86=1:=rfl
@[simp] theorem mode87:C.mode 87=0:=rfl
@[simp] theorem mode88:C.mode 88=1:=rfl
@[simp] theorem mode89:C.mode 89=1:=rfl
@[simp] theorem mode90:C.mode 90=0:=rfl
@[simp] theorem mode91:C.mode 91=0:=rfl
@[simp] theorem mode92:C.mode 92=2:=rfl
@[simp] theorem mode93:C.mode 93=0:=rfl
@[simp] theorem mode94:C.mode 94=0:=rfl
@[simp] theorem mode95:C.mode 95=2:=rfl
@[simp] theorem mode96:C.mode 96=0:=rfl
@[simp] theorem mode97:C.mode 97=0:=rfl
@[simp] theorem mode98:C.mode 98=1:=rfl
@[simp] theorem mode99:C.mode 99=1:=rfl
@[simp] theorem mode100:C.mode 100=0:=rfl
@[simp] theorem mode101:C.mode 101=0:=rfl
@[simp] theorem mode102:C.mode 102=0:=rfl
@[simp] theorem mode103:C.mode 103=0:=rfl
@[simp] theorem mode104:C.mode 104=2:=rfl
@[simp] theorem mode105:C.mode 105=0:=rfl
@[simp] theorem mode106:C.mode 106=0:=rfl
@[simp] theorem mode107:C.mode 107=1:=rfl
@[simp] theorem mode108:C.mode 108=0:=rfl
@[simp] theorem mode109:C.mode 109=1:=rfl
@[simp] theorem mode110:C.mode 110=0:=rfl
@[simp] theorem mode111:C.mode 111=0:=rfl
@[simp] theorem mode112:C.mode 112=1:=rfl
@[simp] theorem mode113:C.mode 113=1:=rfl
@[simp] theorem mode114:C.mode 114=1:=rfl
@[simp] theorem mode115:C.mode 115=1:=rfl
@[simp] theorem mode116:C.mode 116=1:=rfl
@[simp] theorem mode117:C.mode 117=0:=rfl
@[simp] theorem mode118:C.mode 118=1:=rfl
@[simp] theorem mode119:C.mode 119=1:=rfl
@[simp] theorem mode120:C.mode 120=0:=rfl
@[simp] theorem mode121:C.mode 121=1:=rfl
@[simp] theorem mode122:C.mode 122=0:=rfl
@[simp] theorem mode123:C.mode 123=1:=rfl
@[simp] theorem mode124:C.mode 124=1:=rfl
@[simp] theorem mode125:C.mode 125=1:=rfl
@[simp] theorem mode126:C.mode 126=0:=rfl
@[simp] theorem mode127:C.mode 127=0:=rfl
@[simp] theorem mode128:C.mode 128=0:=rfl
@[simp] theorem mode129:C.mode 129=0:=rfl
@[simp] theorem mode130:C.mode 130=1:=rfl
@[simp] theorem mode131:C.mode 131=0:=rfl
@[simp] theorem mode132:C.mode 132=0:=rfl
@[simp] theorem mode133:C.mode 133=0:=rfl
@[simp] theorem mode134:C.mode 134=2:=rfl
@[simp] theorem mode135:C.mode 135=2:=rfl
@[simp] theorem mode136:C.mode 136=2:=rfl
@[simp] theorem mode137:C.mode 137=2:=rfl
@[simp] theorem mode138:C.mode 138=2:=rfl
@[simp] theorem mode139:C.mode 139=2:=rfl
@[simp] theorem mode140:C.mode 140=0:=rfl
@[simp] theorem mode141:C.mode 141=2:=rfl
@[simp] theorem mode142:C.mode 142=2:=rfl
@[simp] theorem mode143:C.mode 143=0:=rfl
@[simp] theorem mode144:C.mode 144=0:=rfl
@[simp] theorem mode145:C.mode 145=1:=rfl
@[simp] theorem mode146:C.mode 146=0:=rfl
@[simp] theorem mode147:C.mode 147=0:=rfl
@[simp] theorem mode148:C.mode 148=0:=rfl
@[simp] theorem mode149:C.mode 149=2:=rfl
@[simp] theorem mode150:C.mode 150=0:=rfl
@[simp] theorem mode151:C.mode 151=0:=rfl
@[simp] theorem mode152:C.mode 152=0:=rfl
@[simp] theorem mode153:C.mode 153=0:=rfl
@[simp] theorem mode154:C.mode 154=0:=rfl
@[simp] theorem mode155:C.mode 155=0:=rfl
@[simp] theorem mode156:C.mode 156=0:=rfl
@[simp] theorem mode157:C.mode 157=1:=rfl
@[simp] theorem mode158:C.mode 158=2:=rfl
@[simp] theorem mode159:C.mode 159=1:=rfl
@[simp] theorem mode160:C.mode 160=2:=rfl
@[simp] theorem mode161:C.mode 161=2:=rfl
@[simp] theorem mode162:C.mode 162=0:=rfl
@[simp] theorem mode163:C.mode 163=1:=rfl
@[simp] theorem mode164:C.mode 164=1:=rfl
@[simp] theorem mode165:C.mode 165=1:=rfl
@[simp] theorem mode166:C.mode 166=1:=rfl
@[simp] theorem mode167:C.mode 167=0:=rfl
@[simp] theorem mode168:C.mode 168=2:=rfl
@[simp] theorem mode169:C.mode 169=1:=rfl
@[simp] theorem mode170:C.mode 170=0:=rfl
@[simp] theorem mode171:C.mode 171=0:=rfl
@[simp] theorem mode172:C.mode 172=2:=rfl
@[simp] theorem mode173:C.mode 173=0:=rfl
@[simp] theorem mode174:C.mode 174=2:=rfl
@[simp] theorem mode175:C.mode 175=2:=rfl
@[simp] theorem mode176:C.mode 176=2:=rfl
@[simp] theorem mode177:C.mode 177=0:=rfl
@[simp] theorem mode178:C.mode 178=0:=rfl
@[simp] theorem mode179:C.mode 179=0:=rfl
@[simp] theorem mode180:C.mode 180=0:=rfl
@[simp] theorem mode181:C.mode 181=0:=rfl
@[simp] theorem mode182:C.mode 182=0:=rfl
@[simp] theorem mode183:C.mode 183=0:=rfl
@[simp] theorem mode184:C.mode 184=1:=rfl
@[simp] theorem mode185:C.mode 185=1:=rfl
@[simp] theorem mode186:C.mode 186=2:=rfl
@[simp] theorem mode187:C.mode 187=2:=rfl
@[simp] theorem mode188:C.mode 188=1:=rfl
@[simp] theorem mode189:C.mode 189=2:=rfl
@[simp] theorem mode190:C.mode 190=0:=rfl
@[simp] theorem mode191:C.mode 191=0:=rfl
@[simp] theorem mode192:C.mode 192=0:=rfl
@[simp] theorem mode193:C.mode 193=0:=rfl
@[simp] theorem mode194:C.mode 194=2:=rfl
@[simp] theorem mode195:C.mode 195=0:=rfl
@[simp] theorem mode196:C.mode 196=0:=rfl
@[simp] theorem mode197:C.mode 197=2:=rfl
@[simp] theorem mode198:C.mode 198=0:=rfl
@[simp] theorem mode199:C.mode 199=0:=rfl
@[simp] theorem mode200:C.mode 200=0:=rfl
@[simp] theorem mode201:C.mode 201=0:=rfl
@[simp] theorem mode202:C.mode 202=0:=rfl
@[simp] theorem mode203:C.mode 203=0:=rfl
@[simp] theorem mode204:C.mode 204=0:=rfl
@[simp] theorem mode205:C.mode 205=2:=rfl
@[simp] theorem mode206:C.mode 206=2:=rfl
@[simp] theorem mode207:C.mode 207=2:=rfl
@[simp] theorem mode208:C.mode 208=2:=rfl
@[simp] theorem mode209:C.mode 209=2:=rfl
@[simp] theorem mode210:C.mode 210=2:=rfl
@[simp] theorem mode211:C.mode 211=2:=rfl
@[simp] theorem mode212:C.mode 212=2:=rfl
@[simp] theorem mode213:C.mode 213=0:=rfl
@[simp] theorem mode214:C.mode 214=0:=rfl
@[simp] theorem mode215:C.mode 215=0:=rfl
@[simp] theorem mode216:C.mode 216=0:=rfl
@[simp] theorem mode217:C.mode 217=1:=rfl
@[simp] theorem mode218:C.mode 218=2:=rfl
@[simp] theorem mode219:C.mode 219=2:=rfl
@[simp] theorem mode220:C.mode 220=2:=rfl
@[simp] theorem mode221:C.mode 221=2:=rfl
@[simp] theorem mode222:C.mode 222=0:=rfl
@[simp] theorem mode223:C.mode 223=0:=rfl
@[simp] theorem mode224:C.mode 224=0:=rfl
@[simp] theorem mode225:C.mode 225=0:=rfl
@[simp] theorem mode226:C.mode 226=0:=rfl
@[simp] theorem mode227:C.mode 227=0:=rfl
@[simp] theorem mode228:C.mode 228=0:=rfl
@[simp] theorem mode229:C.mode 229=0:=rfl
@[simp] theorem mode230:C.mode 230=0:=rfl
@[simp] theorem mode231:C.mode 231=0:=rfl
@[simp] theorem mode232:C.mode 232=0:=rfl
@[simp] theorem mode233:C.mode 233=0:=rfl
@[simp] theorem mode234:C.mode 234=0:=rfl
@[simp] theorem mode235:C.mode 235=0:=rfl
@[simp] theorem mode236:C.mode 236=0:=rfl
@[simp] theorem mode237:C.mode 237=0:=rfl
@[simp] theorem tsz3:tsz Tryz.prog 3=some (false,1):=by kernel_rfl
@[simp] theorem tzero3:tzero Tryz.prog 3=some [.int .i64 0]:=by kernel_rfl
@[simp] theorem tsz4:tsz Tryz.prog 4=some (false,1):=by kernel_rfl
@[simp] theorem tsz5:tsz Tryz.prog 5=some (false,1):=by kernel_rfl
@[simp] theorem und9:Tryz.prog.underlying 9=some .string:=by kernel_rfl
@[simp] theorem tsz22:tsz Tryz.prog 22=some (false,1):=by kernel_rfl
@[simp] theorem eltp22:eltp Tryz.prog 22=some (5,1):=by kernel_rfl
@[simp] theorem isSl22:isSl Tryz.prog 22=true:=by kernel_rfl
@[simp] theorem tsz25:tsz Tryz.prog 25=some (true,2):=by kernel_rfl
@[simp] theorem tzero25:tzero Tryz.prog 25=some [.int .i64 0,.int .i64 0]:=by kernel_rfl
@[simp] theorem Qc9:finfo Tryz.prog 25 0=some (0,false,1):=by kernel_rfl
@[simp] theorem Qc3:finfo Tryz.prog 25 1=some (1,false,1):=by kernel_rfl
@[simp] theorem flatN25:flatN Tryz.prog 25=some [0,0]:=by kernel_rfl
@[simp] theorem bplaces25:bplaces Tryz.prog 25=some [(0,1),(1,1)]:=by kernel_rfl
@[simp] theorem tsz26:tsz Tryz.prog 26=some (false,1):=by kernel_rfl
@[simp] theorem tzero26:tzero Tryz.prog 26=some [.slice none 0 0]:=by kernel_rfl
@[simp] theorem eltp26:eltp Tryz.prog 26=some (3,1):=by kernel_rfl
@[simp] theorem isSl26:isSl Tryz.prog 26=true:=by kernel_rfl
@[simp] theorem tsz28:tsz Tryz.prog 28=some (true,3):=by kernel_rfl
@[simp] theorem tzero28:tzero Tryz.prog 28=some [.int .i64 0,.int .i64 0,.slice none 0 0]:=by kernel_rfl
@[simp] theorem Qdj:finfo Tryz.prog 28 0=some (0,true,2):=by kernel_rfl
@[simp] theorem Qdy:finfo Tryz.prog 28 1=some (2,false,1):=by kernel_rfl
@[simp] theorem bplaces28:bplaces Tryz.prog 28=some [(0,2),(2,1)]:=by kernel_rfl
@[simp] theorem tsz30:tsz Tryz.prog 30=some (true,1):=by kernel_rfl
@[simp] theorem tzero30:tzero Tryz.prog 30=some [.slice none 0 0]:=by kernel_rfl
@[simp] theorem Qc2:finfo Tryz.prog 30 0=some (0,false,1):=by kernel_rfl
@[simp] theorem bplaces30:bplaces Tryz.prog 30=some [(0,1)]:=by kernel_rfl
@[simp] theorem tsz32:tsz Tryz.prog 32=some (true,2):=by kernel_rfl
@[simp] theorem tzero32:tzero Tryz.prog 32=some [.slice none 0 0,.slice none 0 0]:=by kernel_rfl
@[simp] theorem Qc6:finfo Tryz.prog 32 0=some (0,true,1):=by kernel_rfl
@[simp] theorem Qdp:finfo Tryz.prog 32 1=some (1,true,1):=by kernel_rfl
@[simp] theorem bplaces32:bplaces Tryz.prog 32=some [(0,1),(1,1)]:=by kernel_rfl
@[simp] theorem eltp33:eltp Tryz.prog 33=some (73,5):=by kernel_rfl
@[simp] theorem isSl33:isSl Tryz.prog 33=true:=by kernel_rfl
@[simp] theorem tsz36:tsz Tryz.prog 36=some (false,1):=by kernel_rfl
@[simp] theorem eltp36:eltp Tryz.prog 36=some (109,1):=by kernel_rfl
@[simp] theorem isSl36:isSl Tryz.prog 36=true:=by kernel_rfl
@[simp] theorem tsz38:tsz Tryz.prog 38=some (true,11):=by kernel_rfl
@[simp] theorem tzero38:tzero Tryz.prog 38=some [.int .i64 0,.int .i64 0,.slice none 0 0,.slice none 0 0,.slice none 0 0,.slice none 0 0,.slice none 0 0,.slice none 0 0,.slice none 0 0,.slice none 0 0,.int .i64 0]:=by kernel_rfl
@[simp] theorem Qc1:finfo Tryz.prog 38 0=some (0,true,3):=by kernel_rfl
@[simp] theorem Qcz:finfo Tryz.prog 38 1=some (3,true,2):=by kernel_rfl
@[simp] theorem Qdm:finfo Tryz.prog 38 2=some (5,false,1):=by kernel_rfl
@[simp] theorem Qc5:finfo Tryz.prog 38 3=some (6,false,1):=by kernel_rfl
@[simp] theorem Qdz:finfo Tryz.prog 38 4=some (7,false,1):=by kernel_rfl
@[simp] theorem Qdt:finfo Tryz.prog 38 5=some (8,false,1):=by kernel_rfl
@[simp] theorem Qco:finfo Tryz.prog 38 6=some (9,false,1):=by kernel_rfl
@[simp] theorem Qc4:finfo Tryz.prog 38 7=some (10,false,1):=by kernel_rfl
@[simp] theorem bplaces38:bplaces Tryz.prog 38=some [(0,3),(3,2),(5,1),(6,1),(7,1),(8,1),(9,1),(10,1)]:=by kernel_rfl
@[simp] theorem tsz73:tsz Tryz.prog 73=some (true,5):=by kernel_rfl
@[simp] theorem tzero73:tzero Tryz.prog 73=some [.int .i64 0,.int .i64 0,.int .i64 0,.int .i64 0,.int .i64 0]:=by kernel_rfl
@[simp] theorem Qcq:finfo Tryz.prog 73 0=some (0,false,1):=by kernel_rfl
@[simp] theorem Qdw:finfo Tryz.prog 73 1=some (1,false,1):=by kernel_rfl
@[simp] theorem Qcr:finfo Tryz.prog 73 2=some (2,false,1):=by kernel_rfl
@[simp] theorem Qdb:finfo Tryz.prog 73 3=some (3,false,1):=by kernel_rfl
@[simp] theorem Qc7:finfo Tryz.prog 73 4=some (4,false,1):=by kernel_rfl
@[simp] theorem bplaces73:bplaces Tryz.prog 73=some [(0,1),(1,1),(2,1),(3,1),(4,1)]:=by kernel_rfl
@[simp] theorem tsz87:tsz Tryz.prog 87=some (true,3):=by kernel_rfl
@[simp] theorem tzero87:tzero Tryz.prog 87=some [.int .i64 0,.slice none 0 0,.slice none 0 0]:=by kernel_rfl
@[simp] theorem Qda:finfo Tryz.prog 87 0=some (0,false,1):=by kernel_rfl
@[simp] theorem bplaces87:bplaces Tryz.prog 87=some [(0,1),(1,1),(2,1)]:=by kernel_rfl
@[simp] theorem tzero101:tzero Tryz.prog 101=some [.slice none 0 0,.int .i64 0,.int .i64 0]:=by kernel_rfl
@[simp] theorem Qbu:finfo Tryz.prog 101 0=some (0,false,1):=by kernel_rfl
@[simp] theorem Qb8:finfo Tryz.prog 101 1=some (1,false,1):=by kernel_rfl
@[simp] theorem Qbt:finfo Tryz.prog 101 2=some (2,false,1):=by kernel_rfl
@[simp] theorem bplaces101:bplaces Tryz.prog 101=some [(0,1),(1,1),(2,1)]:=by kernel_rfl
@[simp] theorem tsz109:tsz Tryz.prog 109=some (false,1):=by kernel_rfl
@[simp] theorem tzero109:tzero Tryz.prog 109=some [.slice none 0 0]:=by kernel_rfl
@[simp] theorem eltp109:eltp Tryz.prog 109=some (144,5):=by kernel_rfl
@[simp] theorem isSl109:isSl Tryz.prog 109=true:=by kernel_rfl
@[simp] theorem tsz125:tsz Tryz.prog 125=some (false,1):=by kernel_rfl
@[simp] theorem tzero125:tzero Tryz.prog 125=some [.slice none 0 0]:=by kernel_rfl
@[simp] theorem eltp125:eltp Tryz.prog 125=some (194,2):=by kernel_rfl
@[simp] theorem isSl125:isSl Tryz.prog 125=true:=by kernel_rfl
@[simp] theorem tsz144:tsz Tryz.prog 144=some (true,5):=by kernel_rfl
@[simp] theorem tzero144:tzero Tryz.prog 144=some [.int .i64 0,.int .i64 0,.int .i64 0,.bool false,.bool false]:=by kernel_rfl
@[simp] theorem Qba:finfo Tryz.prog 144 1=some (1,false,1):=by kernel_rfl
@[simp] theorem Qb3:finfo Tryz.prog 144 2=some (2,false,1):=by kernel_rfl
@[simp] theorem Qb7:finfo Tryz.prog 144 3=some (3,false,1):=by kernel_rfl
@[simp] theorem Qbz:finfo Tryz.prog 144 4=some (4,false,1):=by kernel_rfl
@[simp] theorem flatN144:flatN Tryz.prog 144=some [0,0,0,1,1]:=by kernel_rfl
@[simp] theorem bplaces144:bplaces Tryz.prog 144=some [(0,1),(1,1),(2,1),(3,1),(4,1)]:=by kernel_rfl
@[simp] theorem eltp145:eltp Tryz.prog 145=some (149,3):=by kernel_rfl
@[simp] theorem isSl145:isSl Tryz.prog 145=true:=by kernel_rfl
@[simp] theorem tsz149:tsz Tryz.prog 149=some (true,3):=by kernel_rfl
@[simp] theorem tzero149:tzero Tryz.prog 149=some [.int .i64 0,.int .i64 0,.int .i64 0]:=by kernel_rfl
@[simp] theorem Qbp:finfo Tryz.prog 149 0=some (0,false,1):=by kernel_rfl
@[simp] theorem Qbd:finfo Tryz.prog 149 1=some (1,false,1):=by kernel_rfl
@[simp] theorem Qca:finfo Tryz.prog 149 2=some (2,false,1):=by kernel_rfl
@[simp] theorem bplaces149:bplaces Tryz.prog 149=some [(0,1),(1,1),(2,1)]:=by kernel_rfl
@[simp] theorem tsz194:tsz Tryz.prog 194=some (true,2):=by kernel_rfl
@[simp] theorem tzero194:tzero Tryz.prog 194=some [.int .i64 0,.int .i64 0]:=by kernel_rfl
@[simp] theorem Qb1:finfo Tryz.prog 194 0=some (0,false,1):=by kernel_rfl
@[simp] theorem Qcj:finfo Tryz.prog 194 1=some (1,false,1):=by kernel_rfl
@[simp] theorem flatN194:flatN Tryz.prog 194=some [0,0]:=by kernel_rfl
@[simp] theorem bplaces194:bplaces Tryz.prog 194=some [(0,1),(1,1)]:=by kernel_rfl
@[simp] theorem tsz200:tsz Tryz.prog 200=some (false,1):=by kernel_rfl
@[simp] theorem tsz204:tsz Tryz.prog 204=some (true,5):=by kernel_rfl
@[simp] theorem tzero204:tzero Tryz.prog 204=some [.bool false,.bool false,.bool false,.bool false,.bool false]:=by kernel_rfl
@[simp] theorem arrp204:arrp Tryz.prog 204=some (5,1):=by kernel_rfl
@[simp] theorem tsz208:tsz Tryz.prog 208=some (false,1):=by kernel_rfl
@[simp] theorem tzero208:tzero Tryz.prog 208=some [.int .u64 0]:=by kernel_rfl
@[simp] theorem eltp213:eltp Tryz.prog 213=some (26,1):=by kernel_rfl
@[simp] theorem isSl213:isSl Tryz.prog 213=true:=by kernel_rfl
@[simp] theorem eltp220:eltp Tryz.prog 220=some (125,1):=by kernel_rfl
@[simp] theorem isSl220:isSl Tryz.prog 220=true:=by kernel_rfl
end Go.Proofs.YtaldglgobgjeaaaGreat.V
set_option linter.all false
namespace Go.Proofs.YtaldglgobgjeaaaGreat.V
open Go Go.VM
def rd (b:List Int) (j:Int):Int:=b.getD j.toNat 0
def inR (lo n hi:Int):Prop:=lo≤n∧n≤hi
instance (lo n hi:Int):Decidable (inR lo n hi):=inferInstanceAs (Decidable (_∧_))
def okG (w h:Int):Prop:=(1≤w∧w≤4)∧1≤h∧h≤4
instance (w h:Int):Decidable (okG w h):=inferInstanceAs (Decidable (_∧_))
def cnt (w h:Int):Int:=if okG w h then w*h else 0
def isN (w h n:Int):Prop:=0≤n∧n<cnt w h
instance (w h n:Int):Decidable (isN w h n):=inferInstanceAs (Decidable (_∧_))
def nodeAt (w h x y:Int):Int:=if okG w h∧(0≤x∧x<w)∧0≤y∧y<h then y*w+x else -1
def next (w h n p:Int):Int:=
 if isN w h n then
  (if p=0 then nodeAt w h (n%w) (n/w-1) else if p=1 then nodeAt w h (n%w+1) (n/w) else if p=2 then nodeAt w h (n%w) (n/w+1)
   else if p=3 then nodeAt w h (n%w-1) (n/w) else if p=4 then n else -1)
 else -1
def leads (w h c:Int):Prop:=(0≤c∧c<4*cnt w h)∧0≤next w h (c/4) (c%4)
instance (w h c:Int):Decidable (leads w h c):=inferInstanceAs (Decidable (_∧_))
def opp (p:Int):Int:=if p=4 then 4 else if 0≤p∧p≤3 then (p+2)%4 else -1
def goodAt (w h:Int) (b:List Int) (j:Nat):Prop:=leads w h (b.getD j 0)∧(0<j→b.getD (j-1) 0<b.getD j 0)
instance (w h:Int) (b:List Int) (j:Nat):Decidable (goodAt w h b j):=inferInstanceAs (Decidable (_∧_))
def meshOk (w h:Int) (b:List Int):Prop:=(∀j,j<b.length→goodAt w h b j)∧okG w h
instance (w h:Int) (b:List Int):Decidable (meshOk w h b):=inferInstanceAs (Decidable (_∧_))
def has (w h:Int) (b:List Int) (c:Int):Prop:=leads w h c∧c∉b
instance (w h:Int) (b:List Int) (c:Int):Decidable (has w h b c):=inferInstanceAs (Decidable (_∧_))
theorem W7 {w h:Int} (h1:okG w h):1≤w*h∧w*h≤16:=by
 obtain ⟨⟨a1,a2⟩,b1,b2⟩:=h1
 have c1:1*1≤w*h:=Int.mul_le_mul a1 b1 (by omega) (by omega)
 have c2:w*h≤4*4:=Int.mul_le_mul a2 b2 (by omega) (by omega)
 omega
theorem Qe (w h:Int):0≤cnt w h∧cnt w h≤16:=by
 unfold cnt;split
 ·rename_i h1;have:=W7 h1;omega
 ·omega
theorem Uc {w h n:Int} (h1:isN w h n):okG w h∧0≤n∧n<w*h∧n<16:=by
 obtain ⟨a,b⟩:=h1
 have:=Qe w h
 unfold cnt at b;split at b
 ·rename_i hg;have:=W7 hg;exact ⟨hg,a,b,by omega⟩
 ·omega
theorem w64 {x:Int} (h1 : -9223372036854775808≤x) (h2:x≤9223372036854775807):IntKind.i64.wrap x=x:=by rw [IntKind.wrap_i64];omega
theorem w6 (x:Int) (h : -9223372036854775808≤x∧x≤9223372036854775807):∀[Inhabited Unit],IntKind.i64.wrap x=x:=by intro _;exact w64 h.1 h.2
end Go.Proofs.YtaldglgobgjeaaaGreat.V
set_option linter.all false
namespace Go.Proofs.YtaldglgobgjeaaaGreat.V
open Go Go.VM Go.Proofs
set_option maxRecDepth 10000
variable {frz:Nat} {H:Heap}
theorem Qm (n lo hi:Int):vcall C frz 64 [.int .i64 n,.int .i64 lo,.int .i64 hi] H=some (.bool (decide (inR lo n hi)),H):=by
 rw [Qa (fn:=Tryz.f64) Tryz.func64 rfl (by kernel_rfl) rfl]
 simp
 repeat' (first|refine W2 _ _ ?_ ?_|refine Q0 _ ?_ ?_)<;>intro h<;>simp [h,inR]
theorem Lf (n lo hi:Int):vcall C frz 120 [.int .i64 n,.int .i64 lo,.int .i64 hi] H=some (.bool (decide (inR lo n hi)),H):=by
 rw [Qa (fn:=Tryz.f120) Tryz.func120 rfl (by kernel_rfl) rfl]
 simp
 repeat' (first|refine W2 _ _ ?_ ?_|refine Q0 _ ?_ ?_)<;>intro h<;>simp [h,inR]
theorem O1 (w h:Int):vcall C frz 59 [.agg #[.int .i64 w,.int .i64 h]] H=some (.bool (decide (okG w h)),H):=by
 rw [Qa (fn:=Tryz.f59) Tryz.func59 rfl (by kernel_rfl) rfl]
 simp [Qm]
 refine W2 _ _ ?_ ?_<;>intro h1<;>simp [h1,Qm]
 ·have:okG w h↔inR 1 h 4:=⟨fun g=>g.2,fun g=>⟨h1,g⟩⟩
  simp [this]
 ·exact fun g=>h1 g.1
theorem Ac (w h:Int):vcall C frz 82 [.agg #[.int .i64 w,.int .i64 h]] H=some (.bool (decide (okG w h)),H):=by
 rw [Qa (fn:=Tryz.f82) Tryz.func82 rfl (by kernel_rfl) rfl]
 simp [Lf]
 refine W2 _ _ ?_ ?_<;>intro h1<;>simp [h1,Lf]
 ·have:okG w h↔inR 1 h 4:=⟨fun g=>g.2,fun g=>⟨h1,g⟩⟩
  simp [this]
 ·exact fun g=>h1 g.1
theorem Q7 (w h:Int):vcall C frz 28 [.agg #[.int .i64 w,.int .i64 h]] H=some (.int .i64 (cnt w h),H):=by
 rw [Qa (fn:=Tryz.f28) Tryz.func28 rfl (by kernel_rfl) rfl]
 simp [O1]
 refine Q0 _ ?_ ?_<;>intro h1<;>simp [h1,cnt]
 have:=W7 h1
 exact w64 (by omega) (by omega)
theorem Zx (w h:Int):vcall C frz 48 [.agg #[.int .i64 w,.int .i64 h]] H=some (.int .i64 (cnt w h),H):=by
 rw [Qa (fn:=Tryz.f48) Tryz.func48 rfl (by kernel_rfl) rfl]
 simp [Ac]
 refine Q0 _ ?_ ?_<;>intro h1<;>simp [h1,cnt]
 have:=W7 h1
 exact w64 (by omega) (by omega)
theorem C6 (w h n:Int):inR 0 n (IntKind.i64.wrap (cnt w h-1))↔isN w h n:=by
 have:=Qe w h
 rw [w64 (by omega) (by omega)]
 simp only [inR,isN];omega
theorem Wz (w h n:Int):vcall C frz 85 [.agg #[.int .i64 w,.int .i64 h],.int .i64 n] H=some (.bool (decide (isN w h n)),H):=by
 rw [Qa (fn:=Tryz.f85) Tryz.func85 rfl (by kernel_rfl) rfl]
 simp [Q7,Qm,C6]
theorem Qbv (w h x y:Int) (h1:okG w h):(inR 0 x (IntKind.i64.wrap (w-1))↔0≤x∧x<w)∧(inR 0 y (IntKind.i64.wrap (h-1))↔0≤y∧y<h):=by
 obtain ⟨⟨a1,a2⟩,b1,b2⟩:=h1
 rw [w64 (by omega) (by omega),w64 (by omega) (by omega)]
 simp only [inR];omega
theorem Qcd {w h x y:Int} (h1:okG w h) (h2:0≤x∧x<w) (h3:0≤y∧y<h):IntKind.i64.wrap (IntKind.i64.wrap (y*w)+x)=y*w+x:=by
 have hm:=W7 h1
 obtain ⟨⟨a1,a2⟩,b1,b2⟩:=h1
 have c1:0*0≤y*w:=Int.mul_le_mul h3.1 (by omega) (by omega) (by omega)
 have c2:y*w≤h*w:=Int.mul_le_mul_of_nonneg_right (by omega) (by omega)
 rw [Int.mul_comm h w] at c2
 rw [w64 (x:=y*w) (by omega) (by omega),w64 (by omega) (by omega)]
theorem Ul (w h x y:Int):vcall C frz 133 [.agg #[.int .i64 w,.int .i64 h],.int .i64 x,.int .i64 y] H=some (.int .i64 (nodeAt w h x y),H):=by
 rw [Qa (fn:=Tryz.f133) Tryz.func133 rfl (by kernel_rfl) rfl]
 simp [O1]
 refine W2 _ _ ?_ ?_<;>intro h1<;>simp [h1,Qm,nodeAt]
 obtain ⟨e1,e2⟩:=Qbv w h x y h1
 simp only [e1,e2]
 refine W2 _ _ ?_ ?_<;>intro h2<;>simp [h2,Qm]
 simp only [e2]
 refine Q0 _ ?_ ?_<;>intro h3<;>simp [h3]
 exact Qcd h1 h2 h3
theorem Yo (w h x y:Int) : -1≤nodeAt w h x y∧nodeAt w h x y<16:=by
 unfold nodeAt
 split
 ·rename_i h1
  obtain ⟨h1,h2,h3⟩:=h1
  have hm:=W7 h1
  obtain ⟨⟨a1,a2⟩,b1,b2⟩:=h1
  have c1:0*0≤y*w:=Int.mul_le_mul h3.1 (by omega) (by omega) (by omega)
  have c2:y*w≤(h-1)*w:=Int.mul_le_mul_of_nonneg_right (by omega) (by omega)
  rw [Int.sub_mul,Int.mul_comm h w] at c2
  omega
 ·omega
theorem mw {n w:Int} (h:0≤n) (h1:1≤w) (h2:n<16):IntKind.i64.wrap (n.tdiv w)=n/w:=by
 rw [Int.tdiv_eq_ediv_of_nonneg h]
 have h3:=Int.ediv_le_self w h
 have h4:=Int.ediv_nonneg h (by omega:0≤w)
 exact w64 (by omega) (by omega)
theorem vx {n w:Int} (h:0≤n):n.tmod w=n%w:=Int.tmod_eq_emod_of_nonneg h
theorem B4 {n w:Int} (h:0≤n) (h1:1≤w) (h2:n<16):0≤n/w∧n/w<16:=⟨Int.ediv_nonneg h (by omega),by have:=Int.ediv_le_self w h;omega⟩
theorem Af {n w:Int} (h1:1≤w) (h2:w≤4):0≤n%w∧n%w<4:=⟨Int.emod_nonneg _ (by omega),by have:=Int.emod_lt_of_pos n (by omega:0<w);omega⟩
theorem V4 (w h n p:Int):vcall C frz 102 [.agg #[.int .i64 w,.int .i64 h],.int .i64 n,.int .i64 p] H=some (.int .i64 (next w h n p),H):=by
 rw [Qa (fn:=Tryz.f102) Tryz.func102 rfl (by kernel_rfl) rfl]
 simp [Wz]
 refine Q0 _ ?_ ?_<;>intro h1<;>simp [h1,next]
 obtain ⟨⟨⟨a1,a2⟩,b1,b2⟩,g2,g3,g4⟩:=Uc h1
 rw [Qf (h:=by kernel_rfl)]
 simp
 refine Xf (by omega) ?_
 refine Xf (by omega) ?_
 obtain ⟨d1,d2⟩:=B4 g2 a1 g4
 obtain ⟨m1,m2⟩:=Af (n:=n) a1 a2
 rw [mw g2 a1 g4,vx g2]
 refine Q0 _ ?_ ?_<;>intro p0<;>simp [p0,Ul]
 ·rw [w64 (by omega) (by omega)]
 refine Q0 _ ?_ ?_<;>intro p1<;>simp [p1,Ul]
 ·rw [w64 (by omega) (by omega)]
 refine Q0 _ ?_ ?_<;>intro p2<;>simp [p2,Ul]
 ·rw [w64 (by omega) (by omega)]
 refine Q0 _ ?_ ?_<;>intro p3<;>simp [p3,Ul]
 ·rw [w64 (by omega) (by omega)]
 refine Q0 _ ?_ ?_<;>intro p4<;>simp [p4,Ul]
theorem Db (w h n p:Int) : -1≤next w h n p∧next w h n p<16:=by
 unfold next
 split
 ·rename_i h1
  have:=Uc h1
  have a0:=Yo w h (n%w) (n/w-1)
  have a1:=Yo w h (n%w+1) (n/w)
  have a2:=Yo w h (n%w) (n/w+1)
  have a3:=Yo w h (n%w-1) (n/w)
  repeat' split
  all_goals omega
 ·omega
theorem Jm (w h c:Int):inR 0 c (IntKind.i64.wrap (IntKind.i64.wrap (4*cnt w h)-1))↔0≤c∧c<4*cnt w h:=by
 have:=Qe w h
 rw [w64 (x:=4*cnt w h) (by omega) (by omega),w64 (by omega) (by omega)]
 simp only [inR];omega
theorem Pm {w h c:Int} (h1:0≤c∧c<4*cnt w h):IntKind.i64.wrap (c.tdiv 4)=c/4∧c.tmod 4=c%4:=by
 have:=Qe w h
 rw [Int.tdiv_eq_ediv_of_nonneg h1.1,Int.tmod_eq_emod_of_nonneg h1.1]
 exact ⟨w64 (by omega) (by omega),rfl⟩
theorem Ln (w h c:Int):vcall C frz 69 [.agg #[.int .i64 w,.int .i64 h],.int .i64 c] H=some (.bool (decide (leads w h c)),H):=by
 rw [Qa (fn:=Tryz.f69) Tryz.func69 rfl (by kernel_rfl) rfl]
 simp [Q7,Qm]
 refine W2 _ _ ?_ ?_<;>intro h1<;>simp [h1]
 ·rw [Jm] at h1
  obtain ⟨e1,e2⟩:=Pm h1
  simp [e1,e2,V4,leads,h1]
 ·rw [Jm] at h1
  exact fun g=>h1 g.1
theorem Qx (xs:List Int) (i:Nat) (h:i<xs.length):xs.getD i 0=xs[i]:=by simp [List.getD_eq_getElem?_getD,h]
theorem wr0:IntKind.i64.wrap 0=0:=by decide
theorem mz:vcall C frz 179 [.slice none 0 0,.int .i64 0] H=some (.slice none 0 0,H):=by
 rw [Qa (fn:=Tryz.f179) Tryz.func179 rfl (by kernel_rfl) rfl]
 simp [wr0]
theorem Qcl (n:Int) (h0:0<n) (h1:n≤1073741824) :
 vcall C frz 179 [.slice none 0 0,.int .i64 n] H=some (.slice (some ⟨H.length,0,some 0⟩) 0 0,H++[⟨[],0,3⟩]):=by
 rw [Qa (fn:=Tryz.f179) Tryz.func179 rfl (by kernel_rfl) rfl]
 have e:IntKind.i64.wrap n=n:=w64 (by omega) (by omega)
 simp [wr0,e,h0]
 refine Q0 _ ?_ ?_<;>intro h2
 ·omega
 simp [h2,wr0,e,h0]
 exact Xf h1 (Xf (by omega) rfl)
theorem za (id:Nat) (x y:Value) (xs ys:List Int) (hr:H[id]? = some ⟨[x,y],0,26⟩) (hx:IsI H x xs) (hy:IsI H y ys) (hl:xs.length+ys.length≤1073741824) :
 vcall C frz 150 [.slice (some ⟨id,0,some 0⟩) 2 0] H=some (if xs++ys=[] then (.slice none 0 0,H) else (.slice (some ⟨H.length,0,some 0⟩) (xs++ys).length 0,H++[⟨(xs++ys).map (.int .i64),0,3⟩])):=by
 rw [Qa (fn:=Tryz.f150) Tryz.func150 rfl (by kernel_rfl) rfl]
 simp [VM.look,hr]
 have lk0:∀o,VM.look H ⟨id,o,some 0⟩=some ⟨[x,y],0,26⟩:=fun o=>by simp [VM.look,hr]
 have lk:∀L o,VM.look (H++L) ⟨id,o,some 0⟩=some ⟨[x,y],0,26⟩:=fun L o=>by
  simp [VM.look,List.getElem?_append_left (List.getElem?_eq_some_iff.1 hr).1,hr]
 have e1:IntKind.i64.wrap (xs.length:Int)=xs.length:=w64 (by omega) (by omega)
 have e2:IntKind.i64.wrap ((xs.length:Int)+ys.length)=xs.length+ys.length:=w64 (by omega) (by omega)
 have n1:¬(xs.length:Int)<0:=by omega
 have n2:¬(xs.length:Int)+ys.length<0:=by omega
 have wr1:IntKind.i64.wrap 1=1:=by decide
 have wr2:IntKind.i64.wrap 2=2:=by decide
 rw [Wl]
 simp [VM.look,hr,hx.len,hy.len,wr0,wr1,wr2,e1,n1]
 rw [Wq,Wl]
 simp [VM.look,hr,hx.len,hy.len,wr0,wr1,wr2,e1,e2,n1,n2]
 rw [Wq,Wl]
 simp [VM.look,hr,hx.len,hy.len,wr0,wr1,wr2,e1,e2,n1,n2]
 by_cases h0:xs.length+ys.length=0
 ·obtain rfl:xs=[]:=List.length_eq_zero_iff.1 (by omega)
  obtain rfl:ys=[]:=List.length_eq_zero_iff.1 (by omega)
  simp [mz,lk0]
  rw [Wl]
  simp [lk0,hx.src,wr0,wr1]
  rw [Wq,Wl]
  simp [lk0,hy.src,wr0,wr1,wr2]
  rw [Wq,Wl]
  simp [lk0,wr0,wr1,wr2]
 ·have hno:¬(xs=[]∧ys=[]):=fun ⟨a,b⟩=>h0 (by rw [a,b];rfl)
  simp [Qcl _ (show (0:Int)<xs.length+ys.length by omega) (by omega),hno,lk]
  rw [Wl]
  simp [lk,(hx.app _).src,wr0,wr1]
  by_cases hx0:xs=[]
  ·have hy0:ys≠[]:=fun hh=>hno ⟨hx0,hh⟩
   have hyl:ys.length≤1073741824:=by omega
   simp [hx0]
   rw [Wq,Wl]
   simp [lk,(hy.app _).src,wr0,wr1,wr2,hy0,hyl]
   rw [Wq,Wl]
   simp [lk,wr0,wr1,wr2]
  ·have hxl:xs.length≤1073741824:=by omega
   simp [hx0,hxl]
   rw [Wq,Wl]
   simp [lk,(hy.app _).src,wr0,wr1,wr2]
   by_cases hy0:ys=[]
   ·simp [hy0]
    rw [Wq,Wl]
    simp [lk,wr0,wr1,wr2]
   ·simp [hy0,hl]
    rw [Wq,Wl]
    simp [lk,wr0,wr1,wr2]
theorem Pd {w h:Int} {b:List Int} {i:Nat} (h5:i<b.length) (hg:¬goodAt w h b i):¬meshOk w h b:=fun hh=>hg (hh.1 i h5)
theorem Jr {w h:Int} {b:List Int} {i:Nat} (hj:∀j<i,goodAt w h b j) (hg:goodAt w h b i):∀j<i+1,goodAt w h b j:=fun j hh=>by
 by_cases hji:j<i
 ·exact hj j hji
 ·have:j=i:=by omega
  rw [this];exact hg
theorem Zz {w h:Int} {b:List Int} {i:Nat} (h5:i<b.length):goodAt w h b i↔leads w h b[i]∧(0<i→b[i-1]<b[i]):=by
 unfold goodAt
 rw [Qx _ _ h5]
 refine and_congr Iff.rfl ⟨fun g p=>?_,fun g p=>?_⟩
 ·have:=g p;rwa [Qx _ _ (by omega)] at this
 ·rw [Qx _ _ (by omega)];exact g p
theorem Dc {b:List Int} {c:Int} {i:Nat} (h:i<b.length) (h1:c∉b.take i) (h2:¬b[i]=c):c∉b.take (i+1):=by
 rw [List.take_succ_eq_append_getElem h]
 simp only [List.mem_append,List.mem_singleton,not_or]
 exact ⟨h1,fun hh=>h2 hh.symm⟩
def place (b:List Int) (c:Int):Int:=if c∈b then b.idxOf c else -1
theorem Jw (b:List Int) (c:Int) : -1≤place b c∧place b c<b.length∧(0≤place b c↔c∈b):=by
 unfold place
 split
 ·rename_i h
  have:=List.idxOf_lt_length_iff.2 h
  refine ⟨by omega,by omega,?_⟩
  simp [h]
 ·rename_i h
  refine ⟨by omega,by omega,?_⟩
  simp [h]
theorem ji {b:List Int} {c:Int} {i:Nat} (h:i<b.length) (h1:c∉b.take i) (h2:b[i]=c):place b c=i:=by
 have hm:c∈b:=h2▸List.getElem_mem h
 unfold place
 rw [if_pos hm]
 have e:b=b.take i++b.drop i:=(List.take_append_drop i b).symm
 have e2:b.drop i=c::b.drop (i+1):=by rw [List.drop_eq_getElem_cons h,h2]
 rw [e,List.idxOf_append,if_neg h1,e2,List.idxOf_cons_self]
 simp;omega
theorem Lq (v:Value) (b:List Int) (c:Int) (hI:IsI H v b) (hl:b.length≤1073741824) :
 vcall C frz 103 [v,.int .i64 c] H=some (.int .i64 (place b c),H):=by
 rw [Qa (fn:=Tryz.f103) Tryz.func103 rfl (by kernel_rfl) rfl]
 simp [hI.len]
 refine Z7 (fun n t H'=>∃i:Nat,n=b.length-i∧i≤b.length∧t 0=v∧t 1=.int .i64 c∧t 6=v∧t 7=.int .i64 b.length∧t 8=.int .i64 i∧H'=H∧c∉b.take i) ?_ (n:=b.length) ⟨0,by simp⟩
 rintro n t H' ⟨i,rfl,hi,h0,h1,h2,h3,h4,rfl,hj⟩ ih
 simp [h0,h1,h2,h3,h4,hI.len]
 refine Q0 _ ?_ ?_<;>intro h5
 ·simp [h0,h1,h2,h3,h4,h5,hI.idx,hI.load,Qx]
  refine Q0 _ ?_ ?_<;>intro h6<;>simp [h0,h1,h2,h3,h4,h6]
  ·rw [ji (c:=b[i]) h5 (by first|exact hj|(rw [h6];exact hj)|(rw [← h6];exact hj)) rfl]
  ·refine ih (b.length-(i+1)) _ _ ⟨i+1,rfl,by omega,by simp [h0],by simp [h1],by simp [h2],by simp [h3],?_,rfl,Dc h5 hj (by omega)⟩ (by omega)
   simp;rw [w64 (by omega) (by omega)]
 ·have:i=b.length:=by omega
  subst this
  simp [h0,h1,h2,h3]
  rw [List.take_length] at hj
  rw [place,if_neg hj]
theorem Zt (v:Value) (b:List Int) (c:Int) (hI:IsI H v b) (hl:b.length≤1073741824) :
 vcall C frz 70 [v,.int .i64 c] H=some (.bool (decide (c∈b)),H):=by
 rw [Qa (fn:=Tryz.f70) Tryz.func70 rfl (by kernel_rfl) rfl]
 simp [Lq _ _ _ hI hl,Jw]
theorem Sa (w h:Int) (v:Value) (b:List Int) (c:Int) (hI:IsI H v b) (h0:leads w h c) :
 vcall C frz 129 [.agg #[.int .i64 w,.int .i64 h,v],.int .i64 c] H=some (.int .i64 (next w h (c/4) (c%4)),H):=by
 rw [Qa (fn:=Tryz.f129) Tryz.func129 rfl (by kernel_rfl) rfl]
 obtain ⟨e1,e2⟩:=Pm h0.1
 simp [hI.one',hI.cells,e1,e2,V4]
theorem Zf (w h:Int) (v:Value) (b:List Int) (hI:IsI H v b) (hl:b.length≤1073741824) :
 vcall C frz 68 [.agg #[.int .i64 w,.int .i64 h,v]] H=some (.bool (decide (meshOk w h b)),H):=by
 rw [Qa (fn:=Tryz.f68) Tryz.func68 rfl (by kernel_rfl) rfl]
 simp [hI.one',hI.cells,hI.lenA]
 refine Z7 (fun n t H'=>∃i:Nat,n=b.length-i∧i≤b.length∧t 1=.pointer (some ⟨H.length,0,some 0⟩)∧t 6=v∧t 7=.int .i64 b.length∧t 8=.int .i64 i∧
  H'=H++[⟨[.int .i64 w,.int .i64 h,v],0,28⟩]∧∀j<i,goodAt w h b j) ?_ (n:=b.length) ⟨0,by simp⟩
 rintro n t H' ⟨i,rfl,hi,h1,h2,h3,h4,rfl,hj⟩ ih
 have next:=fun (t':Env) (e1:t' 1=.pointer (some ⟨H.length,0,some 0⟩)) (e2:t' 6=v) (e3:t' 7=.int .i64 b.length) (e4:t' 8=.int .i64 (i+1:Nat)) (e5:i<b.length) (e6:goodAt w h b i)=>
  ih (b.length-(i+1)) t' _ ⟨i+1,rfl,by omega,e1,e2,e3,e4,rfl,Jr hj e6⟩ (by omega)
 simp [h1,h2,h3,h4]
 refine Q0 _ ?_ ?_<;>intro h5
 ·simp [h1,h2,h3,h4,h5,hI.idxA,hI.loadA,Qx,Ln]
  refine W2 _ _ ?_ ?_<;>intro hL<;>simp [h1,h2,h3,h4,h5,hL]
  ·refine W2 _ _ ?_ ?_<;>intro h0
   ·have e:IntKind.i64.wrap ((i:Int)-1)=((i-1:Nat):Int):=by rw [w64 (by omega) (by omega)];omega
    have e':i-1<b.length:=by omega
    simp [h1,h2,h3,h4,h5,h0,hL,hI.idxA,hI.loadA,Qx,e,e']
    refine Q0 _ ?_ ?_<;>intro h6
    ·simp [h1,h2,h3,h4,h5,h0,hL,h6]
     refine Pd h5 ?_
     rw [Zz h5]
     exact fun hh=>absurd (hh.2 h0) (by omega)
    ·simp [h1,h2,h3,h4,h5,h0,hL,h6]
     refine next _ (by simp [h1]) (by simp [h2]) (by simp [h3]) ?_ h5 ((Zz h5).2 ⟨hL,fun _=>by omega⟩)
     simp;rw [w64 (by omega) (by omega)]
   ·simp [h1,h2,h3,h4,h5,h0,hL]
    refine next _ (by simp [h1]) (by simp [h2]) (by simp [h3]) ?_ h5 ((Zz h5).2 ⟨hL,fun hh=>absurd hh h0⟩)
    simp;rw [w64 (by omega) (by omega)]
  ·refine Pd h5 ?_
   rw [Zz h5]
   exact fun hh=>hL hh.1
 ·have:i=b.length:=by omega
  subst this
  simp [h1,h2,h3,h4,O1]
  exact ⟨fun hg=>⟨hj,hg⟩,fun hh=>hh.2⟩
theorem Fe (w h:Int) (v:Value) (b:List Int) (r:Int) (hI:IsI H v b) (hl:b.length≤1073741824) :
 vcall C frz 151 [.agg #[.int .i64 w,.int .i64 h,v],.int .i64 r] H=some (.bool (decide (meshOk w h b∧isN w h r)),H):=by
 rw [Qa (fn:=Tryz.f151) Tryz.func151 rfl (by kernel_rfl) rfl]
 simp [hI.one',hI.cells,Zf _ _ _ _ (hI.app _) hl]
 refine W2 _ _ ?_ ?_<;>intro h1<;>simp [h1,Wz,-Bool.decide_and]
theorem Xu (w h:Int) (v:Value) (b:List Int) (c:Int) (hI:IsI H v b) (hl:b.length≤1073741824) :
 vcall C frz 35 [.agg #[.int .i64 w,.int .i64 h,v],.int .i64 c] H=some (.bool (decide (meshOk w h b∧has w h b c)),H):=by
 rw [Qa (fn:=Tryz.f35) Tryz.func35 rfl (by kernel_rfl) rfl]
 simp [hI.one',hI.cells,Zf _ _ _ _ (hI.app _) hl]
 refine W2 _ _ ?_ ?_<;>intro h1<;>simp [h1,Ln,-Bool.decide_and]
 refine W2 _ _ ?_ ?_<;>intro h2<;>simp [h2,has,Zt _ _ _ (hI.app _) hl,-Bool.decide_and]
end Go.Proofs.YtaldglgobgjeaaaGreat.V
set_option linter.all false
namespace Go.Proofs.YtaldglgobgjeaaaGreat.V
open Go Go.VM Go.Proofs
set_option maxRecDepth 10000
def portOf (w h:Int) (T:List Int) (a to:Int):Int:=rd T (a*cnt w h+to)
def stepOk (w h:Int) (b T:List Int) (a to:Int):Prop:=inR 0 (portOf w h T a to) 3∧has w h b (4*a+portOf w h T a to)
instance (w h:Int) (b T:List Int) (a to:Int):Decidable (stepOk w h b T a to):=inferInstanceAs (Decidable (_∧_))
def walkN (w h:Int) (b T:List Int) (to:Int):Nat→Int→List Int→List Int
 | 0,a,out=>if portOf w h T a to=4 then (if a=to then out else []) else []
 | f+1,a,out=>if portOf w h T a to=4 then (if a=to then out else []) else
  if stepOk w h b T a to then walkN w h b T to f (next w h a (portOf w h T a to)) (out++[4*a+portOf w h T a to]) else []
def walk (w h:Int) (b T:List Int) (a to:Int):List Int:=walkN w h b T to (cnt w h).toNat a []
def tsized (w h:Int) (b T:List Int):Prop:=meshOk w h b∧(T.length:Int)=cnt w h*cnt w h
instance (w h:Int) (b T:List Int):Decidable (tsized w h b T):=inferInstanceAs (Decidable (_∧_))
def tableOk (w h:Int) (b T:List Int):Prop:=tsized w h b T∧∀a,a<(cnt w h).toNat→∀c,c<(cnt w h).toNat→(a=c→portOf w h T a a=4)∧(a≠c→walk w h b T a c≠[])
instance (w h:Int) (b T:List Int):Decidable (tableOk w h b T):=inferInstanceAs (Decidable (_∧_))
theorem S0 (w h:Int) (b T:List Int) (to:Int):∀f a out,(walkN w h b T to f a out).length≤out.length+f:=by
 intro f
 induction f with
 | zero=>
  intro a out;simp only [walkN];repeat' split
  all_goals simp
 | succ f ih=>
  intro a out;simp only [walkN];repeat' split
  ·omega
  ·simp
  ·have:=ih (next w h a (portOf w h T a to)) (out++[4*a+portOf w h T a to])
   simp at this;omega
  ·simp
theorem Z1 {w h x y:Int} (hx:0≤nodeAt w h x y):isN w h (nodeAt w h x y):=by
 refine ⟨hx,?_⟩
 unfold nodeAt at hx ⊢
 split
 ·rename_i h1
  obtain ⟨h1,h2,h3⟩:=h1
  have hm:=W7 h1
  have c2:y*w≤(h-1)*w:=Int.mul_le_mul_of_nonneg_right (by omega) (by have:=h1.1.1;omega)
  rw [Int.sub_mul,Int.mul_comm h w] at c2
  rw [cnt,if_pos h1]
  omega
 ·rename_i h1;rw [if_neg h1] at hx;omega
theorem Fi {w h a p:Int} (hx:0≤next w h a p):isN w h (next w h a p):=by
 unfold next at hx ⊢
 by_cases h1:isN w h a
 ·rw [if_pos h1] at hx ⊢
  by_cases p0:p=0
  ·rw [if_pos p0] at hx ⊢;exact Z1 hx
  rw [if_neg p0] at hx ⊢
  by_cases p1:p=1
  ·rw [if_pos p1] at hx ⊢;exact Z1 hx
  rw [if_neg p1] at hx ⊢
  by_cases p2:p=2
  ·rw [if_pos p2] at hx ⊢;exact Z1 hx
  rw [if_neg p2] at hx ⊢
  by_cases p3:p=3
  ·rw [if_pos p3] at hx ⊢;exact Z1 hx
  rw [if_neg p3] at hx ⊢
  by_cases p4:p=4
  ·rw [if_pos p4] at hx ⊢;exact h1
  rw [if_neg p4] at hx;omega
 ·rw [if_neg h1] at hx;omega
theorem Xl {w h a p:Int} {b:List Int} (h0:inR 0 p 3) (h1:has w h b (4*a+p)):(4*a+p)/4=a∧(4*a+p)%4=p∧isN w h (next w h a p):=by
 obtain ⟨h2,h3⟩:=h0
 have e1:(4*a+p)/4=a:=by omega
 have e2:(4*a+p)%4=p:=by omega
 refine ⟨e1,e2,Fi ?_⟩
 have:=h1.1.2
 rwa [e1,e2] at this
theorem Gn {w h a to:Int} (h1:isN w h a) (h2:isN w h to):0≤a*cnt w h+to∧a*cnt w h+to<cnt w h*cnt w h∧a*cnt w h≤256∧0≤a*cnt w h:=by
 have hc:=Qe w h
 obtain ⟨a1,a2⟩:=h1
 obtain ⟨b1,b2⟩:=h2
 have c1:0*0≤a*cnt w h:=Int.mul_le_mul a1 hc.1 (by omega) (by omega)
 have c2:a*cnt w h≤(cnt w h-1)*cnt w h:=Int.mul_le_mul_of_nonneg_right (by omega) hc.1
 rw [Int.sub_mul] at c2
 have c3:cnt w h*cnt w h≤16*16:=Int.mul_le_mul hc.2 hc.2 hc.1 (by omega)
 omega
end Go.Proofs.YtaldglgobgjeaaaGreat.V
set_option linter.all false
namespace Go.Proofs.YtaldglgobgjeaaaGreat.V
open Go Go.VM
theorem Y0 {s:List Int} {j:Nat} (h:j<s.length):rd s (j:Int)=s[j]:=by simp [rd,List.getD_eq_getElem?_getD,h]
theorem Ux {s:List Int} {k:Int} (h0:0≤k) (h1:k<s.length):rd s k∈s:=by
 obtain ⟨i,rfl⟩:=Int.eq_ofNat_of_zero_le h0
 rw [Y0 (by omega)];exact List.getElem_mem _
theorem V5 (w h:Int) (b:List Int):meshOk w h b↔okG w h∧(∀c∈b,leads w h c)∧b.Pairwise (· < ·):=by
 have e:∀j,j<b.length→b.getD j 0=rd b (j:Int):=fun j _=>by simp [rd]
 constructor
 ·rintro ⟨h1,h2⟩
  refine ⟨h2,fun c hc=>?_,?_⟩
  ·obtain ⟨j,hj,rfl⟩:=List.getElem_of_mem hc
   have:=(h1 j hj).1
   rwa [Qx _ _ hj] at this
  ·rw [List.pairwise_iff_getElem]
   intro i j hi hj hij
   induction j with
   | zero=>omega
   | succ j ih=>
    have:=(h1 (j+1) hj).2 (by omega)
    rw [Qx _ _ hj,Nat.add_sub_cancel,Qx _ _ (by omega)] at this
    by_cases h3:i=j
    ·subst h3;exact this
    ·exact Int.lt_trans (ih (by omega) (by omega)) this
 ·rintro ⟨h1,h2,h3⟩
  refine ⟨fun j hj=>⟨by rw [Qx _ _ hj];exact h2 _ (List.getElem_mem hj),fun h0=>?_⟩,h1⟩
  rw [Qx _ _ hj,Qx _ _ (by omega)]
  exact List.pairwise_iff_getElem.1 h3 _ _ _ _ (by omega)
def endC (w h c:Int):Int:=next w h (c/4) (c%4)
def backC (w h c:Int):Int:=4*endC w h c+opp (c%4)
def link (w h:Int) (b:List Int) (c:Int):Prop:=has w h b c∧has w h b (backC w h c)
instance (w h:Int) (b:List Int) (c:Int):Decidable (link w h b c):=inferInstanceAs (Decidable (_∧_))
theorem Ez {n:Nat}:∀{b:List Int},b.Pairwise (· < ·)→(∀c∈b,0≤c∧c<(n:Int))→b.length≤n:=by
 intro b hb hc
 have key:∀(b:List Int) (lo:Int),b.Pairwise (· < ·)→(∀c∈b,lo≤c∧c<(n:Int))→0≤lo→(b.length:Int)≤max 0 (n-lo):=by
  intro b
  induction b with
  | nil=>intro lo _ _ _;simp;omega
  | cons a l ih=>
   intro lo hp hm h0
   have h1:=hm a (by simp)
   have h2:=ih (a+1) (List.pairwise_cons.1 hp).2 (fun c hc=>⟨by have:=(List.pairwise_cons.1 hp).1 c hc;omega,(hm c (by simp [hc])).2⟩) (by omega)
   simp;omega
 have:=key b 0 hb (fun c h=>⟨(hc c h).1,(hc c h).2⟩) (by omega)
 omega
def neg (s:List Int):Nat:=s.countP (· < 0)
theorem St {s:List Int} {k x v:Int} (h0:0≤k) (h1:k<s.length) (hx:0≤x):rd (s.set k.toNat v) x=if x=k then v else rd s x:=by
 obtain ⟨i,rfl⟩:=Int.eq_ofNat_of_zero_le h0
 obtain ⟨j,rfl⟩:=Int.eq_ofNat_of_zero_le hx
 simp only [Int.toNat_natCast]
 by_cases hj:j<s.length
 ·rw [Y0 (by simpa using hj),Y0 hj,List.getElem_set]
  by_cases e:i=j
  ·subst e;simp
  ·rw [if_neg e,if_neg (by omega)]
 ·rw [if_neg (by omega)]
  simp [rd,hj]
theorem Ax {s:List Int} {x:Int} (h0:0≤x) (h:rd s x<0):x<s.length:=by
 obtain ⟨j,rfl⟩:=Int.eq_ofNat_of_zero_le h0
 by_cases hj:j<s.length
 ·omega
 ·simp [rd,hj] at h
theorem C3 {s:List Int} {k v:Int} (h0:0≤k) (h1:k<s.length) (h:rd s k<0) (hv:0≤v):neg (s.set k.toNat v)+1=neg s:=by
 obtain ⟨i,rfl⟩:=Int.eq_ofNat_of_zero_le h0
 have hi:i<s.length:=by omega
 rw [Y0 hi] at h
 unfold neg
 rw [Int.toNat_natCast,List.countP_set hi]
 have:0<s.countP (· < 0):=List.countP_pos_iff.2 ⟨_,List.getElem_mem hi,by simpa using h⟩
 rw [if_pos (by simpa using h),if_neg (by simp;omega)]
 omega
def vst (w h:Int) (b:List Int) (a d:Int) (x:List Int×List Int) (p:Nat):List Int×List Int:=
 if link w h b (4*a+p)∧rd x.1 (next w h a p)<0 then (x.1.set (next w h a p).toNat d,x.2++[next w h a p]) else x
def vis (w h:Int) (b:List Int) (a d:Int) (x:List Int×List Int):List Int×List Int:=(List.range 4).foldl (vst w h b a d) x
theorem Wd {w h:Int} {b:List Int} {a:Int} {p:Nat} (hp:p<4) (h1:link w h b (4*a+p)):isN w h a∧isN w h (next w h a p)∧endC w h (4*a+p)=next w h a p:=by
 obtain ⟨⟨⟨h2,h3⟩,_⟩,_⟩:=h1
 have e1:(4*a+(p:Int))/4=a:=by omega
 have e2:(4*a+(p:Int))%4=p:=by omega
 unfold endC
 rw [e1,e2] at h3 ⊢
 exact ⟨⟨by omega,by omega⟩,Fi h3,rfl⟩
structure BExt (w h:Int) (d:Int) (x y:List Int×List Int):Prop where
 len:y.1.length=x.1.length
 old:∀v,0≤v→0≤rd x.1 v→rd y.1 v=rd x.1 v
 new:∀v∈y.2,v∈x.2∨(isN w h v∧rd y.1 v=d)
 sum:neg y.1+y.2.length=neg x.1+x.2.length
 pre:∀v∈x.2,v∈y.2
 low:(∀v∈x.1,-1≤v∧v≤d)→∀v∈y.1,-1≤v∧v≤d
theorem BExt.rfl' {w h d:Int} {x:List Int×List Int}:BExt w h d x x:=⟨rfl,fun _ _ _=>rfl,fun _ h=>.inl h,rfl,fun _ h=>h,fun h=>h⟩
theorem BExt.trans {w h d:Int} {x y z:List Int×List Int} (hd:0≤d) (a:BExt w h d x y) (b:BExt w h d y z):BExt w h d x z where
 len:=b.len.trans a.len
 old v h0 h1:=by
  have e:=a.old v h0 h1
  rw [b.old v h0 (by omega),e]
 new v hv:=by
  rcases b.new v hv with h1|h1
  ·rcases a.new v h1 with h2|⟨h2,h3⟩
   ·exact .inl h2
   ·exact .inr ⟨h2,by rw [b.old v h2.1 (by omega),h3]⟩
  ·exact .inr h1
 sum:=b.sum.trans a.sum
 pre v h:=b.pre v (a.pre v h)
 low h:=b.low (a.low h)
theorem Kg {w h:Int} {b:List Int} {a d:Int} {x:List Int×List Int} {p:Nat} (hp:p<4) (hd:0≤d):BExt w h d x (vst w h b a d x p):=by
 unfold vst
 by_cases hc:link w h b (4*a+p)∧rd x.1 (next w h a p)<0
 ·rw [if_pos hc]
  obtain ⟨h1,h2,h3⟩:=Wd hp hc.1
  have h4:=Ax h2.1 hc.2
  have:=C3 h2.1 h4 hc.2 hd
  refine ⟨by simp,fun v h0 h5=>?_,fun v hv=>?_,by simp;omega,fun v hv=>by simp [hv],fun hl v hv=>?_⟩
  ·simp only
   rw [St h2.1 h4 h0,if_neg (by intro e;subst e;omega)]
  ·simp only [List.mem_append,List.mem_singleton] at hv
   rcases hv with hv|rfl
   ·exact .inl hv
   ·exact .inr ⟨h2,by simp only;rw [St h2.1 h4 h2.1,if_pos rfl]⟩
  ·rcases List.mem_or_eq_of_mem_set hv with h6|rfl
   ·exact hl v h6
   ·omega
 ·rw [if_neg hc];exact BExt.rfl'
theorem Mo {w h:Int} {b:List Int} {a d:Int} (hd:0≤d):∀(l:List Nat) (x:List Int×List Int),(∀p∈l,p<4)→BExt w h d x (l.foldl (vst w h b a d) x)
 | [],x,_=>BExt.rfl'
 | p::l,x,hp=>(Kg (hp p (by simp)) hd).trans hd (Mo hd l _ (fun q hq=>hp q (by simp [hq])))
theorem R5 {w h:Int} {b:List Int} {a d:Int} (hd:0≤d) (x:List Int×List Int):BExt w h d x (vis w h b a d x):=Mo hd _ _ (by simp)
theorem gv {w h:Int} {b:List Int} {a d:Int} (s q q':List Int) (p:Nat):vst w h b a d (s,q++q') p=((vst w h b a d (s,q') p).1,q++(vst w h b a d (s,q') p).2):=by
 unfold vst
 simp only
 split<;>simp
theorem M5 {w h:Int} {b:List Int} {a d:Int} (q:List Int):∀(l:List Nat) (s q':List Int),l.foldl (vst w h b a d) (s,q++q')=((l.foldl (vst w h b a d) (s,q')).1,q++(l.foldl (vst w h b a d) (s,q')).2)
 | [],s,q'=>rfl
 | p::l,s,q'=>by
  rw [List.foldl_cons,List.foldl_cons,gv]
  exact M5 q l _ _
theorem D8 {w h:Int} {b:List Int} {a d:Int} (q s q':List Int):vis w h b a d (s,q++q')=((vis w h b a d (s,q')).1,q++(vis w h b a d (s,q')).2):=M5 q _ _ _
inductive Run (w h:Int) (b:List Int):List Int→List Int→List Int→Int→List Int→Prop
 | done (s:List Int) (d:Int):Run w h b s [] [] d s
 | level {s:List Int} {x:Int} {nx:List Int} {d:Int} {r:List Int}:Run w h b s (x::nx) [] (d+1) r→Run w h b s [] (x::nx) d r
 | node {s:List Int} {a:Int} {rest nx:List Int} {d:Int} {r:List Int}:Run w h b (vis w h b a d (s,nx)).1 rest (vis w h b a d (s,nx)).2 d r→Run w h b s (a::rest) nx d r
structure Inv (w h:Int) (s rest nx:List Int) (d:Int):Prop where
 len:(s.length:Int)=cnt w h
 fr:∀v∈rest,isN w h v∧rd s v=d-1
 nw:∀v∈nx,isN w h v∧rd s v=d
 one:1≤d
 sum:d+neg s+nx.length≤cnt w h
 low:∀v∈s,-1≤v∧v≤d
theorem Inv.level {w h:Int} {s nx:List Int} {x d:Int} (i:Inv w h s [] (x::nx) d):Inv w h s (x::nx) [] (d+1):=
 ⟨i.len,fun v hv=>⟨(i.nw v hv).1,by have:=(i.nw v hv).2;omega⟩,by simp,by have:=i.one;omega,by have:=i.sum;simp at this ⊢;omega,fun v hv=>by have:=i.low v hv;omega⟩
theorem Inv.node {w h:Int} {b s rest nx:List Int} {a d:Int} (i:Inv w h s (a::rest) nx d):Inv w h (vis w h b a d (s,nx)).1 rest (vis w h b a d (s,nx)).2 d:=by
 have h1:=i.one
 have e:=R5 (w:=w) (h:=h) (b:=b) (a:=a) (d:=d) (by omega) (s,nx)
 refine ⟨by rw [e.len];exact i.len,fun v hv=>?_,fun v hv=>?_,h1,?_,e.low i.low⟩
 ·obtain ⟨h2,h3⟩:=i.fr v (by simp [hv])
  exact ⟨h2,by rw [e.old v h2.1 (by simp only;omega)];exact h3⟩
 ·rcases e.new v hv with h2|h2
  ·obtain ⟨h3,h4⟩:=i.nw v h2
   exact ⟨h3,by rw [e.old v h3.1 (by simp only;omega)];exact h4⟩
  ·exact h2
 ·have:=e.sum;have:=i.sum;simp only at *;omega
theorem Qck {w h:Int} {b:List Int}:∀(m:Nat) (s rest nx:List Int) (d:Int),3*neg s+2*nx.length+rest.length≤m→Inv w h s rest nx d→∃r,Run w h b s rest nx d r:=by
 intro m
 induction m with
 | zero=>
  intro s rest nx d hm i
  cases rest with
  | nil=>cases nx with
   | nil=>exact ⟨s,.done s d⟩
   | cons x nx=>simp at hm
  | cons a rest=>simp at hm
 | succ m ih=>
  intro s rest nx d hm i
  cases rest with
  | nil=>cases nx with
   | nil=>exact ⟨s,.done s d⟩
   | cons x nx=>
    obtain ⟨r,hr⟩:=ih s (x::nx) [] (d+1) (by simp at hm ⊢;omega) i.level
    exact ⟨r,.level hr⟩
  | cons a rest=>
   have e:=(R5 (w:=w) (h:=h) (b:=b) (a:=a) (d:=d) (by have:=i.one;omega) (s,nx)).sum
   have e2:=(R5 (w:=w) (h:=h) (b:=b) (a:=a) (d:=d) (by have:=i.one;omega) (s,nx))
   have h1:nx.length≤(vis w h b a d (s,nx)).2.length:=by
    have:=D8 (w:=w) (h:=h) (b:=b) (a:=a) (d:=d) nx s []
    rw [List.append_nil] at this;rw [this];simp
   simp only at e
   obtain ⟨r,hr⟩:=ih (vis w h b a d (s,nx)).1 rest (vis w h b a d (s,nx)).2 d (by simp at hm;omega) i.node
   exact ⟨r,.node hr⟩
def start (w h root:Int):List Int:=(List.replicate (cnt w h).toNat (-1)).set root.toNat 0
theorem X0 {w h root:Int} (hr:isN w h root):Inv w h (start w h root) [root] [] 1∧((neg (start w h root):Nat):Int)+1=cnt w h:=by
 have hc:=Qe w h
 have hl:root<((List.replicate (cnt w h).toNat (-1:Int)).length:Int):=by have:=hr.2;simp;omega
 have h0:rd (List.replicate (cnt w h).toNat (-1:Int)) root=-1:=by
  have:=Ux hr.1 hl
  exact List.eq_of_mem_replicate this
 have h1:=C3 (v:=0) hr.1 hl (by omega) (by omega)
 have h2:neg (List.replicate (cnt w h).toNat (-1:Int))=(cnt w h).toNat:=by unfold neg;simp [List.countP_replicate]
 rw [h2] at h1
 have h3:((neg (start w h root):Nat):Int)+1=cnt w h:=by unfold start;omega
 refine ⟨⟨by unfold start;simp;omega,fun v hv=>?_,by simp,by omega,by simp;omega,fun v hv=>?_⟩,h3⟩
 ·simp only [List.mem_singleton] at hv
  subst hv
  refine ⟨hr,?_⟩
  unfold start;rw [St hr.1 hl hr.1,if_pos rfl];omega
 ·rcases List.mem_or_eq_of_mem_set hv with h6|rfl
  ·have:=List.eq_of_mem_replicate h6;omega
  ·omega
theorem Run.inv {w h:Int} {b s rest nx:List Int} {d:Int} {r:List Int} (R:Run w h b s rest nx d r):Inv w h s rest nx d→∃d',Inv w h r [] [] d':=by
 induction R with
 | done s d=>exact fun i=>⟨d,i⟩
 | level _ ih=>exact fun i=>ih i.level
 | node _ ih=>exact fun i=>ih i.node
def rootOk (w h:Int) (b:List Int) (root:Int):Prop:=meshOk w h b∧isN w h root
instance (w h:Int) (b:List Int) (root:Int):Decidable (rootOk w h b root):=inferInstanceAs (Decidable (_∧_))
theorem Mf {w h:Int} (b:List Int) {root:Int} (hr:isN w h root):∃r,Run w h b (start w h root) [root] [] 1 r:=Qck _ _ _ _ _ (Nat.le_refl _) (X0 hr).1
noncomputable def depths (w h:Int) (b:List Int) (root:Int):List Int:=if H:rootOk w h b root then Classical.choose (Mf b H.2) else []
theorem Yv {w h:Int} {b:List Int} {root:Int} (H:rootOk w h b root):Run w h b (start w h root) [root] [] 1 (depths w h b root):=by
 unfold depths;rw [dif_pos H];exact Classical.choose_spec (Mf b H.2)
theorem Zh {w h:Int} {b:List Int} {root:Int} (H:¬rootOk w h b root):depths w h b root=[]:=dif_neg H
theorem Wb {w h:Int} {b:List Int} {root:Int} (H:rootOk w h b root):(((depths w h b root).length:Nat):Int)=cnt w h∧∀v∈depths w h b root,-1≤v∧v≤16:=by
 obtain ⟨d,i⟩:=(Yv H).inv (X0 H.2).1
 have hc:=Qe w h
 refine ⟨i.len,fun v hv=>?_⟩
 have:=i.low v hv;have:=i.sum;omega
theorem Vw (w h:Int) (b:List Int) (root:Int):(depths w h b root).length≤16:=by
 have hc:=Qe w h
 by_cases H:rootOk w h b root
 ·have:=(Wb H).1;omega
 ·rw [Zh H];simp
theorem D0 {w h:Int} {b:List Int} {root:Int} {v:Int} (hv:v∈depths w h b root) : -1≤v∧v≤16:=by
 by_cases H:rootOk w h b root
 ·exact (Wb H).2 v hv
 ·rw [Zh H] at hv;simp at hv
theorem C7 {w h:Int} (h1:okG w h):isN w h 0:=by
 have:=W7 h1
 refine ⟨by omega,?_⟩
 unfold cnt;rw [if_pos h1];omega
def conn (w h:Int) (b:List Int):Prop:=meshOk w h b∧-1∉depths w h b 0
noncomputable instance (w h:Int) (b:List Int):Decidable (conn w h b):=inferInstanceAs (Decidable (_∧_))
noncomputable def depthOf (w h:Int) (b:List Int) (root:Int):Int:=(depths w h b root).foldl max (-1)
noncomputable def better (w h:Int) (b:List Int) (best:Int) (root:Nat):Int:=if depthOf w h b (root:Int)<depthOf w h b best then (root:Int) else best
noncomputable def bestRoot (w h:Int) (b:List Int):Int:=if conn w h b then (List.range (cnt w h).toNat).foldl (better w h b) 0 else -1
def toRoot (w h:Int) (b d:List Int) (i:Int) (p:Nat):Prop:=link w h b (4*i+p)∧rd d (next w h i p)=rd d i-1
instance (w h:Int) (b d:List Int) (i:Int) (p:Nat):Decidable (toRoot w h b d i p):=inferInstanceAs (Decidable (_∧_))
def par (w h:Int) (b d:List Int) (i:Int):Int:=
 if rd d i>0 then
  (if toRoot w h b d i 0 then next w h i (0:Nat) else if toRoot w h b d i 1 then next w h i (1:Nat) else if toRoot w h b d i 2 then next w h i (2:Nat) else if toRoot w h b d i 3 then next w h i (3:Nat) else -1)
 else -1
def pars (w h:Int) (b d:List Int):List Int:=(List.range d.length).map fun i:Nat=>par w h b d (i:Int)
noncomputable def parents (w h:Int) (b:List Int) (root:Int):List Int:=pars w h b (depths w h b root)
theorem Xw (w h:Int) (b:List Int) (root:Int):(parents w h b root).length=(depths w h b root).length:=by simp [parents,pars]
def Hi (d:Int) (x:List Int×List Int):Prop:=∀v∈x.1,v<d∨(v=d∧x.2≠[])
theorem Qbi {w h:Int} {b:List Int} {a d:Int} {x:List Int×List Int} {p:Nat} (hx:Hi d x):Hi d (vst w h b a d x p):=by
 unfold vst
 split
 ·intro v hv
  rcases List.mem_or_eq_of_mem_set hv with h6|rfl
  ·rcases hx v h6 with h7|h7
   ·exact .inl h7
   ·exact .inr ⟨h7.1,by simp⟩
  ·exact .inr ⟨rfl,by simp⟩
 ·exact hx
theorem Ih {w h:Int} {b:List Int} {a d:Int}:∀(l:List Nat) (x:List Int×List Int),Hi d x→Hi d (l.foldl (vst w h b a d) x)
 | [],x,hx=>hx
 | p::l,x,hx=>Ih l _ (Qbi hx)
theorem Run.hi {w h:Int} {b s rest nx:List Int} {d:Int} {r:List Int} (R:Run w h b s rest nx d r):Inv w h s rest nx d→Hi d (s,nx)→∀v∈r,v<cnt w h:=by
 induction R with
 | done s d=>
  intro i hh v hv
  rcases hh v hv with h1|h1
  ·have:=i.sum;simp at this;omega
  ·exact absurd rfl h1.2
 | level _ ih=>
  exact fun i hh=>ih i.level (fun v hv=>by rcases hh v hv with h1|h1<;>exact .inl (by omega))
 | node _ ih=>exact fun i hh=>ih i.node (Ih _ _ hh)
theorem Ao {w h:Int} {b:List Int} {root:Int} (H:rootOk w h b root):∀v∈depths w h b root,v<cnt w h:=by
 refine (Yv H).hi (X0 H.2).1 (fun v hv=>?_)
 have:=(X0 H.2).1.low v hv
 rcases List.mem_or_eq_of_mem_set hv with h6|rfl
 ·have:=List.eq_of_mem_replicate h6;exact .inl (by omega)
 ·exact .inl (by omega)
theorem Ma (w h:Int) (b d:List Int) (i:Int):par w h b d i=-1∨∃p:Nat,p<4∧par w h b d i=next w h i p∧toRoot w h b d i p∧rd d i>0:=by
 unfold par
 by_cases h0:rd d i>0
 ·rw [if_pos h0]
  by_cases e0:toRoot w h b d i 0
  ·rw [if_pos e0];exact .inr ⟨0,by omega,rfl,e0,h0⟩
  rw [if_neg e0]
  by_cases e1:toRoot w h b d i 1
  ·rw [if_pos e1];exact .inr ⟨1,by omega,rfl,e1,h0⟩
  rw [if_neg e1]
  by_cases e2:toRoot w h b d i 2
  ·rw [if_pos e2];exact .inr ⟨2,by omega,rfl,e2,h0⟩
  rw [if_neg e2]
  by_cases e3:toRoot w h b d i 3
  ·rw [if_pos e3];exact .inr ⟨3,by omega,rfl,e3,h0⟩
  rw [if_neg e3];exact .inl rfl
 ·rw [if_neg h0];exact .inl rfl
def Tree (t:List Int) (m:Int→Int):Prop:=∀i:Int,0≤i→i<t.length→m i<t.length∧(rd t i=-1∨(0≤rd t i∧rd t i<t.length∧0≤m (rd t i)∧m (rd t i)+1=m i))
theorem Tx {w h:Int} {b:List Int} {root:Int} (H:rootOk w h b root):Tree (parents w h b root) (rd (depths w h b root)):=by
 have hl:=Xw w h b root
 obtain ⟨hc,_⟩:=Wb H
 intro i h0 h1
 have h2:i<((depths w h b root).length:Int):=by omega
 refine ⟨by have:=Ao H _ (Ux h0 h2);omega,?_⟩
 have e:rd (parents w h b root) i=par w h b (depths w h b root) i:=by
  obtain ⟨j,rfl⟩:=Int.eq_ofNat_of_zero_le h0
  rw [Y0 (by omega)];simp [parents,pars]
 rw [e]
 rcases Ma w h b (depths w h b root) i with h3|⟨p,hp,h3,h4,h5⟩
 ·exact .inl h3
 ·obtain ⟨_,hn,_⟩:=Wd hp h4.1
  rw [h3]
  refine .inr ⟨hn.1,by have:=hn.2;omega,?_,?_⟩
  ·have:=h4.2;omega
  ·have:=h4.2;omega
def inP (P:List Int) (a:Int):Prop:=0≤a∧a<P.length
instance (P:List Int) (a:Int):Decidable (inP P a):=inferInstanceAs (Decidable (_∧_))
@[simp] theorem Qgh (P:List Int):inP P (-1)=False:=by simp [inP]
def ancN (P:List Int):Nat→Int→List Int→List Int
 | 0,a,out=>if inP P a then [] else if a=-1∧out≠[] then out else []
 | f+1,a,out=>if inP P a then ancN P f (rd P a) (out++[a]) else if a=-1∧out≠[] then out else []
def anc (P:List Int) (a:Int):List Int:=ancN P P.length a []
theorem wg (P:List Int):∀f a out,(ancN P f a out).length≤out.length+f:=by
 intro f
 induction f with
 | zero=>
  intro a out;unfold ancN;repeat' split
  all_goals simp
 | succ f ih=>
  intro a out;unfold ancN;split
  ·have:=ih (rd P a) (out++[a]);simp at this;omega
  ·split<;>simp
theorem Ry (P:List Int) (a:Int):(anc P a).length≤P.length:=by have:=wg P P.length a [];simpa [anc] using this
theorem mu (P:List Int):∀f a out,(∀x∈out,inP P x)→∀x∈ancN P f a out,inP P x:=by
 intro f
 induction f with
 | zero=>
  intro a out ho x hx;unfold ancN at hx;repeat' split at hx
  all_goals first|exact ho x hx|(simp at hx)
 | succ f ih=>
  intro a out ho x hx;unfold ancN at hx;split at hx
  ·rename_i h1
   exact ih _ _ (fun y hy=>by rcases List.mem_append.1 hy with hy|hy;exact ho y hy;rw [List.mem_singleton.1 hy];exact h1) x hx
  ·split at hx
   ·exact ho x hx
   ·simp at hx
theorem Qa7 {P:List Int} {a x:Int} (h:x∈anc P a):inP P x:=mu P P.length a [] (by simp) x h
def common (P:List Int) (a b:Int):Int:=((anc P a).find? (fun x=>decide (x∈anc P b))).getD (-1)
theorem A5 {P:List Int} {a b:Int} (h:∀x∈anc P a,x∉anc P b):common P a b=-1:=by
 unfold common
 rw [List.find?_eq_none.2 (by simpa using h)];rfl
theorem Ua {P:List Int} {a b:Int} (h:0≤common P a b):common P a b∈anc P a∧common P a b∈anc P b:=by
 unfold common at h ⊢
 cases hf:(anc P a).find? (fun x=>decide (x∈anc P b)) with
 | none=>rw [hf] at h;simp at h
 | some u=>
  have h1:=List.mem_of_find?_eq_some hf
  have h2:=List.find?_some hf
  exact ⟨h1,by simpa using h2⟩
def treeNodes (P:List Int) (a b:Int):List Int:=
 if common P a b<0 then [] else (anc P a).take ((anc P a).idxOf (common P a b)+1)++((anc P b).take ((anc P b).idxOf (common P a b))).reverse
theorem vg {l:List Int} {q:Int→Bool} {j:Nat} (h:j<l.length) (hq:∀x∈l.take j,q x=false) (hx:q l[j]=true):l.find? q=some l[j]:=by
 have e:l=l.take j++(l[j]::l.drop (j+1)):=by rw [← List.drop_eq_getElem_cons h,List.take_append_drop]
 have e2:=congrArg (List.find? q) e
 rw [e2,List.find?_append,List.find?_eq_none.2 (by simpa using hq),List.find?_cons_of_pos hx];rfl
def chain (t:List Int):Nat→Int→List Int
 | 0,_=>[]
 | k+1,v=>if inP t v then v::chain t k (rd t v) else []
def Ends (t:List Int):Nat→Int→Prop
 | 0,v=>v=-1
 | k+1,v=>v=-1∨(inP t v∧Ends t k (rd t v))
theorem Tree.ends {t:List Int} {m:Int→Int} (T:Tree t m):∀(k:Nat) (v:Int),0≤v→v<t.length→m v<k→(0≤m v∨0<k)→Ends t k v:=by
 intro k
 induction k with
 | zero=>intro v h0 h1 h2 h3;omega
 | succ k ih=>
  intro v h0 h1 h2 _
  refine .inr ⟨⟨h0,h1⟩,?_⟩
  rcases (T v h0 h1).2 with h3|⟨h3,h4,h5,h6⟩
  ·rw [h3];cases k<;>simp [Ends]
  ·exact ih _ h3 h4 (by omega) (.inl h5)
theorem Eh {t:List Int}:∀(k:Nat) (v:Int) (out:List Int),Ends t k v→(out≠[]∨(0≤v∧v<t.length))→ancN t k v out=out++chain t k v:=by
 intro k
 induction k with
 | zero=>
  intro v out he ho
  have he:v=-1:=he
  subst he
  have ho:out≠[]:=ho.resolve_right (by omega)
  simp [ancN,chain,ho]
 | succ k ih=>
  intro v out he ho
  rcases he with rfl|⟨h1,h2⟩
  ·have ho:out≠[]:=ho.resolve_right (by omega)
   simp [ancN,chain,ho]
  ·simp only [ancN,chain]
   rw [if_pos h1,if_pos h1,ih _ _ h2 (.inl (by simp))]
   simp
theorem Al {t:List Int}:∀(k k':Nat) (v:Int),Ends t k v→Ends t k' v→chain t k v=chain t k' v:=by
 intro k
 induction k with
 | zero=>
  intro k' v h1 h2
  have h1:v=-1:=h1
  subst h1
  cases k' with
  | zero=>rfl
  | succ k'=>simp [chain]
 | succ k ih=>
  intro k' v h1 h2
  cases k' with
  | zero=>
   have h2:v=-1:=h2
   subst h2;simp [chain]
  | succ k'=>
   rcases h1 with rfl|⟨h1,h3⟩
   ·simp [chain]
   ·rcases h2 with rfl|⟨_,h4⟩
    ·simp at h1
    ·simp only [chain];rw [if_pos h1,if_pos h1,ih _ _ h3 h4]
theorem Jd {t:List Int} {m:Int→Int} (T:Tree t m) {v:Int} (h0:0≤v) (h1:v<t.length):anc t v=v::(if rd t v=-1 then [] else anc t (rd t v)):=by
 have hE:∀u:Int,0≤u→u<t.length→Ends t t.length u:=fun u a b=>T.ends t.length u a b (T u a b).1 (.inr (by omega))
 have e:∀u:Int,0≤u→u<t.length→anc t u=chain t t.length u:=fun u a b=>by
  have:=Eh t.length u [] (hE u a b) (.inr ⟨a,b⟩);simpa [anc] using this
 rw [e v h0 h1]
 obtain ⟨n,hn⟩:∃n,t.length=n+1:=⟨t.length-1,by omega⟩
 have h2:=hE v h0 h1
 rw [hn] at h2 ⊢
 rcases h2 with h2|⟨_,h3⟩
 ·omega
 simp only [chain]
 rw [if_pos (show inP t v from ⟨h0,h1⟩)]
 rcases (T v h0 h1).2 with h4|⟨h4,h5,_,_⟩
 ·rw [if_pos h4,h4];cases n<;>simp [chain]
 ·rw [if_neg (by omega),e _ h4 h5,Al n t.length _ h3 (hE _ h4 h5)]
end Go.Proofs.YtaldglgobgjeaaaGreat.V
set_option linter.all false
namespace Go.Proofs.YtaldglgobgjeaaaGreat.V
open Go Go.VM Go.Proofs
set_option maxRecDepth 10000
variable {frz:Nat} {H:Heap}
theorem Qe0 (v:Value) (P:List Int) (a:Int) (hI:IsI H v P) (hl:P.length≤1073741823) :
 vcall C frz 148 [v,.int .i64 a] H=some (if anc P a=[] then (.slice none 0 0,H) else (.slice (some ⟨H.length,0,some 0⟩) (anc P a).length 0,H++[⟨(anc P a).map (.int .i64),0,3⟩])):=by
 rw [Qa (fn:=Tryz.f148) Tryz.func148 rfl (by kernel_rfl) rfl]
 simp
 refine Z7 (fun n t H'=>∃(o:List Int) (g:Nat) (x:Int) (G:Heap),n=P.length-o.length∧t 0=v∧t 5=.slice (some ⟨H.length,0,some g⟩) o.length 0∧t 6=.int .i64 x∧
  H'=H++⟨o.map (.int .i64),g,3⟩::G∧o.length≤P.length∧ancN P (P.length-o.length) x o=anc P a) ?_ (n:=P.length) ⟨[],0,a,[],by simp [anc]⟩
 rintro n t H' ⟨o,g,x,G,rfl,h0,h5,h6,rfl,ho,hw⟩ ih
 have hin:inR 0 x (IntKind.i64.wrap ((P.length:Int)-1))↔inP P x:=by
  rw [w64 (by omega) (by omega)];simp only [inR,inP];omega
 simp [h0,h5,h6,hI.lenA,Lf,Qm,hin]
 have hz:¬inP P x→anc P a=if x=-1∧o≠[] then o else []:=fun hx=>by
  rw [← hw];cases P.length-o.length<;>simp only [ancN,if_neg hx]
 have hm:¬inP P (-1):=fun hh=>by have:=hh.1;omega
 refine W2 _ _ ?_ ?_<;>intro h1
 ·have hx:¬inP P x:=h1▸hm
  by_cases ho0:o=[]
  ·have:=hz hx
   simp [ho0] at this
   have hm':¬inR 0 (-1) (IntKind.i64.wrap ((P.length:Int)-1)):=fun hh=>by have:=hh.1;omega
   simp [h0,h5,h6,h1,ho0,hI.lenA,Qm,hm',this]
  ·have hol:o.length≠0:=fun hh=>ho0 (List.length_eq_zero_iff.1 hh)
   have:=hz hx
   simp [h1,ho0] at this
   simp [h0,h5,h6,h1,ho0,this]
 ·simp [h0,h5,h6,h1,hI.lenA,Qm,hin]
  refine W2 _ _ ?_ ?_<;>intro hx
  ·simp [h0,h5,h6,hx,hI.lenA]
   refine Q0 _ ?_ ?_<;>intro hf
   ·have hz':anc P a=[]:=by
     rw [← hw,show P.length-o.length=0 by omega,ancN,if_pos hx]
    simp [h0,h5,h6,hz']
   ·have q1:∀L,vindexAddr Tryz.prog (H++L) 26 v (.int .i64 x)=some (elp v x.toNat):=fun L=>hI.idxA (e:=3) (by simp) hx.1 hx.2
    have q2:∀L,vload Tryz.prog (H++L) 3 (elp v x.toNat)=some (.int .i64 (rd P x)):=fun L=>hI.loadA (by simp) (by have:=hx.1;have:=hx.2;omega)
    simp [h0,h5,h6]
    refine Xf (by omega) ?_
    simp [h0,h5,h6,q1,q2]
    refine ih (P.length-(o.length+1)) _ _ ⟨o++[x],g+1,rd P x,_,by simp,by simp [h0],by simp,by simp,by simp;rfl,by simp;omega,?_⟩ (by omega)
    rw [show P.length-o.length=(P.length-(o++[x]).length)+1 by simp;omega,ancN,if_pos hx] at hw
    exact hw
  ·have:=hz hx
   simp [h1] at this
   simp [h0,h5,h6,hx,this]
theorem Jc {xs:List Int} {r:Option (Value×Heap)} (h:r=some (if xs=[] then (.slice none 0 0,H) else (.slice (some ⟨H.length,0,some 0⟩) xs.length 0,H++[⟨xs.map (.int .i64),0,3⟩]))):wp r (Made Fl.int 3 H xs):=by
 subst h
 by_cases hx:xs=[]
 ·simp [hx];exact ⟨[],by simp,.inl ⟨rfl,rfl⟩,by simp⟩
 ·simp [hx]
  exact ⟨_,rfl,Ow.new0 rfl (Q8 xs).symm (by simp) rfl,by simp⟩
theorem C8 (v:Value) (P:List Int) (a:Int) (hI:IsI H v P) (hl:P.length≤1073741823):wp (vcall C frz 148 [v,.int .i64 a] H) (Made Fl.int 3 H (anc P a)):=Jc (Qe0 v P a hI hl)
theorem ql {P:List Int} {a b:Int} {i:Nat} (h:i<(anc P a).length) (h1:∀x∈(anc P a).take i,x∉anc P b) (h2:(anc P a)[i]∈anc P b):common P a b=(anc P a)[i]:=by
 unfold common
 rw [vg h (by simpa using h1) (by simpa using h2)];rfl
theorem Lr {xs:List Int} {p:Int→Prop} {i:Nat} (h:i<xs.length) (h1:∀x∈xs.take i,p x) (h2:p xs[i]):∀x∈xs.take (i+1),p x:=by
 rw [List.take_succ_eq_append_getElem h]
 intro x hx
 rcases List.mem_append.1 hx with hx|hx
 ·exact h1 x hx
 ·rw [List.mem_singleton.1 hx];exact h2
theorem xg (v:Value) (P:List Int) (a b:Int) (hI:IsI H v P) (hl:P.length≤1073741823) :
 wp (vcall C frz 147 [v,.int .i64 a,.int .i64 b] H) (fun r _=>r=.int .i64 (common P a b)):=by
 rw [Qa (fn:=Tryz.f147) Tryz.func147 rfl (by kernel_rfl) rfl]
 simp
 refine Qd (C8 v P b hI hl) ?_
 rintro vb _ ⟨L1,rfl,ob,nb⟩
 simp
 refine Qd (C8 v P a (hI.app _) hl) ?_
 rintro va _ ⟨L2,rfl,oa,na⟩
 have ob:=(ob.app (L:=L2)).rd.isI
 have oa:=oa.rd.isI
 have hla:=Ry P a
 have hlb:=Ry P b
 simp only [List.append_assoc] at oa ob
 simp [oa.len]
 refine Qg (fun n t H'=>∃i:Nat,n=(anc P a).length-i∧i≤(anc P a).length∧t 7=vb∧t 15=va∧t 16=.int .i64 (anc P a).length∧t 17=.int .i64 i∧H'=H++(L1++L2)∧∀x∈(anc P a).take i,x∉anc P b) ?_ (n:=(anc P a).length) ⟨0,by simp⟩
 rintro n t H' ⟨i,rfl,hi,h7,h15,h16,h17,rfl,hj⟩ ih
 simp [h7,h15,h16,h17]
 refine Qc ?_ ?_<;>intro h5
 ·simp [h7,h15,h16,h17,h5,oa.idx,oa.load,Qx,Zt _ _ _ ob (by omega)]
  refine Qc ?_ ?_<;>intro h6
  ·simp [h7,h15,h16,h17,h5,h6]
   exact (ql h5 hj h6).symm
  ·simp [h7,h15,h16,h17,h5,h6]
   refine ih ((anc P a).length-(i+1)) _ _ ⟨i+1,rfl,by omega,by simp [h7],by simp [h15],by simp [h16],?_,rfl,Lr h5 hj h6⟩ (by omega)
   simp;rw [w64 (by omega) (by omega)]
 ·have:i=(anc P a).length:=by omega
  subst this
  simp
  rw [List.take_length] at hj
  rw [A5 hj]
theorem jl (v:Value) (P:List Int) (a b:Int) (hI:IsI H v P) (hl:P.length≤1073741823):vcall C frz 147 [v,.int .i64 a,.int .i64 b] H=some (.int .i64 (common P a b),H):=
 (xg v P a b hI hl).exact (by simp) rfl
def flip (xs:List Int) (i:Nat):List Int:=(List.range xs.length).map fun j=>if j<i∨xs.length-i≤j then rd xs ((xs.length-1-j:Nat):Int) else rd xs (j:Int)
theorem Ya (xs:List Int) (i:Nat):(flip xs i).length=xs.length:=by simp [flip]
theorem Zc (xs:List Int) (i j:Nat) (h:j<xs.length):(flip xs i)[j]'(by rw [Ya];exact h)=if j<i∨xs.length-i≤j then xs[xs.length-1-j] else xs[j]:=by
 simp only [flip,List.getElem_map,List.getElem_range]
 split
 ·rw [Y0 (by omega)]
 ·rw [Y0 h]
theorem qq (xs:List Int):flip xs 0=xs:=by
 apply List.ext_getElem (Ya _ _)
 intro j h1 h2
 rw [Zc _ _ _ h2,if_neg (by omega)]
theorem xl (xs:List Int) (i:Nat) (h:xs.length≤2*i+1):flip xs i=xs.reverse:=by
 apply List.ext_getElem (by rw [Ya,List.length_reverse])
 intro j h1 h2
 rw [Zc _ _ _ (by simpa using h2),List.getElem_reverse]
 split
 ·rfl
 ·congr 1;rw [List.length_reverse] at h2;omega
theorem Br (xs:List Int) (i:Nat) (h:2*i+1<xs.length):((flip xs i).set i ((flip xs i)[xs.length-1-i]'(by rw [Ya];omega))).set (xs.length-1-i) ((flip xs i)[i]'(by rw [Ya];omega))=flip xs (i+1):=by
 apply List.ext_getElem (by simp [Ya])
 intro j h1 h2
 rw [Ya] at h2
 rw [List.getElem_set,List.getElem_set,Zc _ _ _ h2,Zc _ _ _ (by omega),Zc _ _ _ (by omega),Zc _ _ _ h2]
 by_cases e1:xs.length-1-i=j
 ·subst e1
  rw [if_pos rfl,if_neg (by omega),if_pos (by omega)]
  congr 1;omega
 ·by_cases e2:i=j
  ·subst e2
   rw [if_neg e1,if_pos rfl,if_neg (by omega),if_pos (by omega)]
  ·rw [if_neg e1,if_neg e2]
   by_cases e3:j<i∨xs.length-i≤j
   ·rw [if_pos e3,if_pos (by omega)]
   ·rw [if_neg e3,if_neg (by omega)]
theorem A9 (v:Value) (xs:List Int) (e:TypeId) (h:Ow Fl.int e H v xs) (hl:xs.length≤1073741824) (hf:∀i∈ids v,frz≤i) :
 wp (vcall C frz 149 [v] H) (fun _ H'=>Ow Fl.int e H' v xs.reverse∧Chg H H' (ids v)∧H'.length=H.length):=by
 rw [Qa (fn:=Tryz.f149) Tryz.func149 rfl (by kernel_rfl) rfl]
 simp [h.rd.len]
 refine Qg (fun n t H'=>∃i:Nat,n=xs.length-i∧i≤xs.length∧t 0=v∧t 2=.int .i64 i∧t 3=.int .i64 (xs.length-1-i)∧2*i≤xs.length+1∧Ow Fl.int e H' v (flip xs i)∧Chg H H' (ids v)∧H'.length=H.length) ?_ (n:=xs.length)
  ⟨0,by simp,by omega,by simp,by simp,by simp;exact w64 (by omega) (by omega),by omega,by rw [qq];exact h,Chg.refl _,rfl⟩
 rintro n t H' ⟨i,rfl,hi,h0,h2,h3,h2i,o,c,l⟩ ih
 simp [h0,h2,h3]
 refine Qc ?_ ?_<;>intro h5
 ·have i1:=o.rd.isI
  have fl:=Ya xs i
  have e1:((xs.length:Int)-1-i).toNat=xs.length-1-i:=by omega
  have e2:((xs.length:Int)-1-i)=((xs.length-1-i:Nat):Int):=by omega
  rw [e2] at h3
  simp [h0,h2,h3,h5]
  rw [Qf (h:=by kernel_rfl)]
  have p1:i<(flip xs i).length:=by omega
  have p2:xs.length-1-i<(flip xs i).length:=by omega
  simp [h0,h2,h3,h5,i1.idx,i1.load,p1,p2,Qx]
  obtain ⟨H1,s1,o1,c1,l1⟩:=o.put1 (P:=Tryz.prog) (frz:=frz) rfl (et:=3) (ag:=false) (by simp) p1 (x:=.int .i64 ((flip xs i)[xs.length-1-i])) rfl rfl rfl hf
  have i2:=o1.rd.isI
  have p3:xs.length-1-i<((flip xs i).set i (flip xs i)[xs.length-1-i]).length:=by simp;omega
  obtain ⟨H2,s2,o2,c2,l2⟩:=o1.put1 (P:=Tryz.prog) (frz:=frz) rfl (et:=3) (ag:=false) (by simp) p3 (x:=.int .i64 ((flip xs i)[i])) rfl rfl rfl hf
  simp [s1,h0,h2,h3,i2.idx,p2,s2]
  refine ih (xs.length-(i+1)) _ _ ⟨i+1,rfl,by omega,by simp [h0],?_,?_,by omega,?_,c.trans (c1.trans c2),by omega⟩ (by omega)
  ·simp;rw [w64 (by omega) (by omega)]
  ·simp;rw [w64 (by omega) (by omega)];omega
  ·rw [Br xs i (by omega)] at o2;exact o2
 ·simp
  exact ⟨by rw [← xl xs i (by omega)];exact o,c,l⟩
def big:Nat:=1073741824
abbrev dIntS:Dt Value (List Int):=dFlat Fl.int 3 1073741824
def Made2 {V A:Type} (T:Dt V A) (H:Heap) (a:A) (ok:Bool) (r:Value) (H':Heap):Prop:=∃u,r=.tuple #[u,.bool ok]∧T.Made H a u H'
abbrev MeshD:=Int×Int×List Int
def dMesh:Dt Value MeshD where
 val v a:=.agg #[.int .i64 a.1,.int .i64 a.2.1,v]
 Ow H v a:=dIntS.Ow H v a.2.2
 ids:=VM.ids
 frame h k:=dIntS.frame h k
 lt h:=dIntS.lt h
theorem W1 (v:Value) (a:MeshD):dMesh.val v a=.agg #[.int .i64 a.1,.int .i64 a.2.1,v]:=rfl
theorem Xb {v:Value} {a:MeshD} (h:dMesh.Ow H v a):VM.one v=true∧v.cells=#[v]:=⟨h.1.rd.one',h.1.rd.cells⟩
theorem Zm {v:Value} {a:List Int} (h:dIntS.Ow H v a):VM.one v=true∧v.cells=#[v]:=⟨h.1.rd.one',h.1.rd.cells⟩
def dTable:Dt Value (List Int) where
 val v _:=.agg #[v]
 Ow H v a:=dIntS.Ow H v a
 ids:=VM.ids
 frame h k:=dIntS.frame h k
 lt h:=dIntS.lt h
theorem X3 (v:Value) (a:List Int):dTable.val v a=.agg #[v]:=rfl
theorem X5 {v:Value} {a:List Int} (h:dTable.Ow H v a):VM.one v=true∧v.cells=#[v]:=⟨h.1.rd.one',h.1.rd.cells⟩
abbrev ClassesD:=List Int×List Int
def dClasses:Dt (Value×Value) ClassesD where
 val v _:=.agg #[v.1,v.2]
 Ow H v a:=dIntS.Ow H v.1 a.1∧dIntS.Ow H v.2 a.2
 ids v:=VM.ids v.1++VM.ids v.2
 frame h k:=⟨dIntS.frame h.1 fun i hi=>k i (List.mem_append.2 (.inl hi)),dIntS.frame h.2 fun i hi=>k i (List.mem_append.2 (.inr hi))⟩
 lt h i hi:=by
  rcases List.mem_append.1 hi with hi|hi
  ·exact dIntS.lt h.1 i hi
  ·exact dIntS.lt h.2 i hi
theorem Xd (v:Value×Value) (a:ClassesD):dClasses.val v a=.agg #[v.1,v.2]:=rfl
theorem Q5 {v:Value×Value} {a:ClassesD} (h:dClasses.Ow H v a):(VM.one v.1=true∧v.1.cells=#[v.1])∧VM.one v.2=true∧v.2.cells=#[v.2]:=⟨⟨h.1.1.rd.one',h.1.1.rd.cells⟩,h.2.1.rd.one',h.2.1.rd.cells⟩
abbrev FlitD:=Int×Int×Int×Bool×Bool
def flF:Fl FlitD:=⟨5,fun a=>[.int .i64 a.1,.int .i64 a.2.1,.int .i64 a.2.2.1,.bool a.2.2.2.1,.bool a.2.2.2.2],fun _=>rfl⟩
@[simp] theorem Fd:flF.n=5:=rfl
theorem Yu (a:FlitD):flF.f a=[.int .i64 a.1,.int .i64 a.2.1,.int .i64 a.2.2.1,.bool a.2.2.2.1,.bool a.2.2.2.2]:=rfl
theorem T4 (xs:List FlitD):ones (cellsOf flF xs)=true:=by
 induction xs with
 | nil=>rfl
 | cons a l ih=>rw [Wa];simp [ih,Yu]
theorem Vk {P:Program} {H:Heap} {s:TypeId} {f:Nat} (a:Addr):vfieldAddr P H s f (.pointer (some a))=match VM.look H a with
 | some _=>(match finfo P s f with|some (o,_,_)=>some (.pointer (some ⟨a.block,a.off+o,a.spot⟩))|none=>none)
 | none=>none:=rfl
abbrev SSD:=List (List FlitD)
abbrev SSV:=Value×List Value
def dSS:Dt SSV SSD where
 val v _:=v.1
 Ow H v a:=OwL flF 144 109 H v.1 v.2 a∧a.length≤2097152∧∀xs∈a,xs.length≤67108864
 ids v:=idsL v.1 v.2
 frame h k:=⟨h.1.frame k,h.2⟩
 lt h:=h.1.lt
theorem jp {α:Type} (xss:List (List α)) {i:Nat} (h:i<xss.length):((xss.take (i+1)).map List.length).sum=((xss.take i).map List.length).sum+xss[i].length:=by
 rw [List.take_succ_eq_append_getElem h,List.map_append,List.sum_append];simp
theorem Fq {α:Type} (xss:List (List α)):∀xs∈xss,xs.length≤(xss.map List.length).sum:=by
 induction xss with
 | nil=>simp
 | cons a l ih=>
  intro xs hx;rcases List.mem_cons.1 hx with rfl|hx
  ·simp
  ·have:=ih xs hx;simp;omega
theorem Xi {α:Type} {D:Fl α} {v:Value} {hs:List Value} {xss:List (List α)} (h:RdL D H v hs xss) {ty e:TypeId} (he:eltp Tryz.prog ty=some (e,1)) (ht:tsz Tryz.prog e=some (false,1)) {j:Nat} (hj:j<xss.length) :
 ∃a,hs[j]? = some a∧vindexAddr Tryz.prog H ty v (.int .i64 j)=some (elp v j)∧vload Tryz.prog H e (elp v j)=some a∧Rd D H a xss[j]:=by
 have hj':j<hs.length:=by rw [h.2.1];exact hj
 have q1:=h.1.idx (P:=Tryz.prog) (ty:=ty) (e:=e) (by simpa using he) (i:=(j:Int)) (by omega) (by omega)
 have q2:=h.1.cell1 (P:=Tryz.prog) rfl ht hj'
 refine ⟨hs[j],by simp [hj'],by simpa using q1,by simpa using q2,h.2.2 j _ _ (by simp [hj']) (by simp [hj])⟩
theorem Z5 {l m:List Nat} {n:Nat} (h1:l.Nodup) (h2:m.Nodup) (h3:∀i∈l,i<n) (h4:∀i∈m,n≤i):(l++m).Nodup:=
 List.nodup_append.2 ⟨h1,h2,fun a ha b hb e=>by have:=h3 a ha;have:=h4 b hb;omega⟩
def dAnd {V A W B:Type} (T:Dt V A) (U:Dt W B):Dt (V×W) (A×B) where
 val _ _:=undef
 Ow H v a:=T.Ow H v.1 a.1∧U.Ow H v.2 a.2
 ids v:=T.ids v.1++U.ids v.2
 frame h k:=⟨T.frame h.1 fun i hi=>k i (List.mem_append.2 (.inl hi)),U.frame h.2 fun i hi=>k i (List.mem_append.2 (.inr hi))⟩
 lt h i hi:=by
  rcases List.mem_append.1 hi with hi|hi
  ·exact T.lt h.1 i hi
  ·exact U.lt h.2 i hi
def dNone (A:Type):Dt Unit A where
 val _ _:=undef
 Ow _ _ _:=True
 ids _:=[]
 frame _ _:=trivial
 lt _ i hi:=by simp at hi
abbrev NetD:=MeshD×ClassesD×SSD×List Int×List Int×SSD×SSD×Int
noncomputable instance:DecidableEq NetD:=fun _ _=>Classical.propDecidable _
abbrev NetV:=Value×(Value×Value)×SSV×Value×Value×SSV×SSV×Unit
def dNet0:Dt NetV NetD:=dAnd dMesh (dAnd dClasses (dAnd dSS (dAnd dIntS (dAnd dIntS (dAnd dSS (dAnd dSS (dNone Int)))))))
def netVal (v:NetV) (a:NetD):Value:=
 .agg #[.int .i64 a.1.1,.int .i64 a.1.2.1,v.1,v.2.1.1,v.2.1.2,v.2.2.1.1,v.2.2.2.1,v.2.2.2.2.1,v.2.2.2.2.2.1.1,v.2.2.2.2.2.2.1.1,.int .i64 a.2.2.2.2.2.2.2]
def dNet:Dt NetV NetD:={ dNet0 with val:=netVal }
theorem Ql (v:NetV) (a:NetD):dNet.val v a =
 .agg #[.int .i64 a.1.1,.int .i64 a.1.2.1,v.1,v.2.1.1,v.2.1.2,v.2.2.1.1,v.2.2.2.1,v.2.2.2.2.1,v.2.2.2.2.2.1.1,v.2.2.2.2.2.2.1.1,.int .i64 a.2.2.2.2.2.2.2]:=rfl
theorem Vf {v:SSV} {a:SSD} (h:dSS.Ow H v a):VM.one v.1=true∧v.1.cells=#[v.1]:=⟨h.1.1.rd.one',h.1.1.rd.cells⟩
theorem Qk {v:NetV} {a:NetD} (h:dNet.Ow H v a):(VM.one v.1=true∧v.1.cells=#[v.1])∧(VM.one v.2.1.1=true∧v.2.1.1.cells=#[v.2.1.1])∧(VM.one v.2.1.2=true∧v.2.1.2.cells=#[v.2.1.2])∧(VM.one v.2.2.1.1=true∧v.2.2.1.1.cells=#[v.2.2.1.1])∧
 (VM.one v.2.2.2.1=true∧v.2.2.2.1.cells=#[v.2.2.2.1])∧(VM.one v.2.2.2.2.1=true∧v.2.2.2.2.1.cells=#[v.2.2.2.2.1])∧(VM.one v.2.2.2.2.2.1.1=true∧v.2.2.2.2.2.1.1.cells=#[v.2.2.2.2.2.1.1])∧(VM.one v.2.2.2.2.2.2.1.1=true∧v.2.2.2.2.2.2.1.1.cells=#[v.2.2.2.2.2.2.1.1]):=by
 obtain ⟨h1,h2,h3,h4,h5,h6,h7,_⟩:=h
 exact ⟨Xb h1,(Q5 h2).1,(Q5 h2).2,Vf h3,Zm h4,Zm h5,Vf h6,Vf h7⟩
theorem Gp (w h:Int) (v u:Value) (b T:List Int) (a to:Int) (hI:IsI H v b) (hT:IsI H u T) (hl:b.length≤1073741824) (hz:tsized w h b T) (ha:isN w h a) (hto:isN w h to) :
 vcall C frz 128 [.agg #[.int .i64 w,.int .i64 h,v],.agg #[u],.int .i64 a,.int .i64 to] H =
  some (.int .i64 (if inR 0 (portOf w h T a to) 4 then portOf w h T a to else -1),H):=by
 rw [Qa (fn:=Tryz.f128) Tryz.func128 rfl (by kernel_rfl) rfl]
 have hc:=Qe w h
 obtain ⟨k0,k1,k2,k3⟩:=Gn ha hto
 have hTl:=hz.2
 have hc2:cnt w h*cnt w h≤16*16:=Int.mul_le_mul hc.2 hc.2 hc.1 (by omega)
 have hc3:0*0≤cnt w h*cnt w h:=Int.mul_le_mul hc.1 hc.1 (by omega) hc.1
 have e0:IntKind.i64.wrap (cnt w h*cnt w h)=cnt w h*cnt w h:=w64 (by omega) (by omega)
 have e1:IntKind.i64.wrap (a*cnt w h)=a*cnt w h:=w64 (by omega) (by omega)
 have e2:IntKind.i64.wrap (a*cnt w h+to)=a*cnt w h+to:=w64 (by omega) (by have:=hto.2;omega)
 have q1:∀L,vindexAddr Tryz.prog (H++L) 26 u (.int .i64 (a*cnt w h+to))=some (elp u (a*cnt w h+to).toNat):=fun L=>hT.idxA (e:=3) (by simp) k0 (by omega)
 have q2:∀L,vload Tryz.prog (H++L) 3 (elp u (a*cnt w h+to).toNat)=some (.int .i64 (portOf w h T a to)):=fun L=>hT.loadA (by simp) (by omega)
 simp [hI.one',hI.cells,hT.one',hT.cells,Q7,Zf _ _ _ _ (hI.app _) hl,hz.1,Qm,C6,ha,hto,e0,e1,e2,q1,q2,hT.lenA,hTl]
 try refine Q0 _ ?_ ?_<;>intro hr<;>simp [hr,q1,q2,e1,e2]
def ret (H:Heap) (xs:List Int):Value×Heap:=if xs=[] then (.slice none 0 0,H) else (.slice (some ⟨H.length,0,some 0⟩) xs.length 0,H++[⟨xs.map (.int .i64),0,3⟩])
theorem jk (w h:Int) (v u:Value) (b T:List Int) (a to:Int) (hI:IsI H v b) (hT:IsI H u T) (hl:b.length≤1073741824) (hz:tsized w h b T) (ha:isN w h a) (hto:isN w h to) (hne:a≠to) :
 vcall C frz 97 [.agg #[.int .i64 w,.int .i64 h,v],.agg #[u],.int .i64 a,.int .i64 to] H=some (ret H (walk w h b T a to)):=by
 rw [Qa (fn:=Tryz.f97) Tryz.func97 rfl (by kernel_rfl) rfl]
 have hc:=Qe w h
 simp [hI.one',hI.cells,hT.one',hT.cells,Q7,Zf _ _ _ _ (hI.app _) hl,hz.1,Wz,ha,hto,hne]
 refine Z7 (fun n t H'=>∃(o:List Int) (g:Nat) (x:Int) (G:Heap),n=(cnt w h).toNat+1-o.length∧t 3=.int .i64 to∧t 4=.pointer (some ⟨H.length,0,some 0⟩)∧t 5=.pointer (some ⟨H.length+1,0,some 0⟩)∧
  t 9=.slice (some ⟨H.length+2,0,some g⟩) o.length 0∧t 10=.int .i64 x∧
  H'=H++⟨[.int .i64 w,.int .i64 h,v],0,28⟩::⟨[u],0,30⟩::⟨o.map (.int .i64),g,3⟩::G∧
  o.length≤(cnt w h).toNat∧isN w h x∧walkN w h b T to ((cnt w h).toNat-o.length) x o=walk w h b T a to∧(o=[]→x≠to)) ?_
  (n:=(cnt w h).toNat+1) ⟨[],0,a,[],by simp [ha,walk,hne]⟩
 rintro n t H' ⟨o,g,x,G,rfl,h3,h4,h5,h9,h10,rfl,ho1,hx,hw,hox⟩ ih
 have hpa:=fun F L=>Gp (frz:=F) (H:=H++L) w h v u b T x to (hI.app _) (hT.app _) hl hz hx hto
 have hw0:portOf w h T x to≠4→¬stepOk w h b T x to→walk w h b T a to=[]:=fun hp hh=>by
  rw [← hw];cases (cnt w h).toNat-o.length<;>simp [walkN,hp,hh]
 simp [h3,h4,h5,h9,h10,hI.one',hI.cells,hT.one',hT.cells,hpa]
 have hnil:walk w h b T a to=[]→(Value.slice none 0 0,H)=ret H (walk w h b T a to):=fun hh=>by rw [hh];rfl
 by_cases hr:inR 0 (portOf w h T x to) 4
 ·have hlt:¬portOf w h T x to<0:=by have:=hr.1;omega
  simp [hr,hlt]
  refine Q0 _ ?_ ?_<;>intro hp
  ·have hw':walk w h b T a to=if x=to then o else []:=by
    rw [← hw];cases (cnt w h).toNat-o.length<;>simp [walkN,hp]
   simp [h3,h4,h5,h9,h10,hp]
   refine Q0 _ ?_ ?_<;>intro hq
   ·have hon:o≠[]:=fun hh=>hox hh hq
    rw [if_pos hq] at hw'
    simp [h3,h4,h5,h9,h10,hq,hw',ret,hon]
   ·rw [if_neg hq] at hw'
    simp [h3,h4,h5,h9,h10,hq,hw',ret]
  ·have hr3:inR 0 (portOf w h T x to) 3:=⟨hr.1,by have:=hr.2;omega⟩
   have e3:IntKind.i64.wrap (4*x)=4*x:=w64 (by have:=hx.1;omega) (by have:=hx.2;omega)
   have e4:IntKind.i64.wrap (4*x+portOf w h T x to)=4*x+portOf w h T x to:=w64 (by have:=hx.1;have:=hr.1;omega) (by have:=hx.2;have:=hr.2;omega)
   simp [h3,h4,h5,h9,h10,hp,hI.one',hI.cells,e3,e4,Xu _ _ _ _ _ (hI.app _) hl,hz.1]
   refine W2 _ _ ?_ ?_<;>intro hh
   ·obtain ⟨s1,s2,s3⟩:=Xl hr3 hh
    have he:=fun F L=>Sa (frz:=F) (H:=H++L) w h v b (4*x+portOf w h T x to) (hI.app _) hh.1
    rw [s1,s2] at he
    simp [h3,h4,h5,h9,h10,hp,hh,hI.one',hI.cells,e3,e4,Q7]
    refine Q0 _ ?_ ?_<;>intro hf
    ·have hwz:walk w h b T a to=[]:=by
      rw [show (cnt w h).toNat-o.length=0 by omega] at hw
      rw [← hw,walkN,if_neg hp]
     simp [h3,h4,h5,h9,h10,hp,hh,hf,hnil hwz]
    ·simp [h3,h4,h5,h9,h10,hp,hh,hf,hI.one',hI.cells,e3,e4]
     refine Xf (by omega) ?_
     simp [h3,h4,h5,h9,h10,hp,hh,hf,hI.one',hI.cells,e3,e4,he]
     refine ih ((cnt w h).toNat+1-(o.length+1)) _ _ ⟨o++[4*x+portOf w h T x to],g+1,next w h x (portOf w h T x to),_,by simp,by simp [h3],by simp [h4],by simp [h5],by simp,by simp,by simp;rfl,by simp;omega,s3,?_,by simp⟩ (by omega)
     rw [show (cnt w h).toNat-o.length=((cnt w h).toNat-(o++[4*x+portOf w h T x to]).length)+1 by simp;omega] at hw
     rw [← hw,walkN,if_neg hp,if_pos ⟨hr3,hh⟩]
   ·simp [h3,h4,h5,h9,h10,hp,hh]
    exact hnil (hw0 hp (fun hs=>hh hs.2))
 ·simp [hr]
  refine hnil (hw0 (fun hp=>hr ?_) fun hs=>hr ⟨hs.1.1,by have:=hs.1.2;omega⟩)
  rw [hp];exact ⟨by omega,by omega⟩
theorem wq (w h:Int):IntKind.i64.wrap (cnt w h*cnt w h)=cnt w h*cnt w h:=by
 have hc:=Qe w h
 have hc2:cnt w h*cnt w h≤16*16:=Int.mul_le_mul hc.2 hc.2 hc.1 (by omega)
 have hc3:0*0≤cnt w h*cnt w h:=Int.mul_le_mul hc.1 hc.1 (by omega) hc.1
 exact w64 (by omega) (by omega)
def good (w h:Int) (b T:List Int) (a c:Nat):Prop:=((a:Int)=c→portOf w h T a a=4)∧((a:Int)≠c→walk w h b T a c≠[])
theorem Q9 {w h:Int} {a:Nat} (k:a<(cnt w h).toNat):isN w h a:=⟨by omega,by omega⟩
theorem Y4 (v:Value) (xs:List Int) (lo hi:Int) (hI:IsI H v xs) (hl:xs.length≤1073741824) :
 vcall C frz 44 [v,.int .i64 lo,.int .i64 hi] H=some (.bool (decide (∀x∈xs,inR lo x hi)),H):=by
 rw [Qa (fn:=Tryz.f44) Tryz.func44 rfl (by kernel_rfl) rfl]
 simp [hI.len]
 refine Z7 (fun n t H'=>∃i:Nat,n=xs.length-i∧i≤xs.length∧t 1=.int .i64 lo∧t 2=.int .i64 hi∧t 9=v∧t 10=.int .i64 xs.length∧t 11=.int .i64 i∧H'=H∧∀x∈xs.take i,inR lo x hi) ?_ (n:=xs.length) ⟨0,by simp⟩
 rintro n t H' ⟨i,rfl,hi',h1,h2,h3,h4,h5,rfl,hj⟩ ih
 simp [h1,h2,h3,h4,h5]
 refine Q0 _ ?_ ?_<;>intro h6
 ·simp [h1,h2,h3,h4,h5,h6,hI.idx,hI.load,Qx,Qm]
  refine Q0 _ ?_ ?_<;>intro h7<;>simp [h1,h2,h3,h4,h5,h6,h7]
  ·refine ih (xs.length-(i+1)) _ _ ⟨i+1,rfl,by omega,by simp [h1],by simp [h2],by simp [h3],by simp [h4],?_,rfl,fun x hx=>?_⟩ (by omega)
   ·simp;rw [w64 (by omega) (by omega)]
   ·rw [List.take_succ_eq_append_getElem h6] at hx
    rcases List.mem_append.1 hx with hx|hx
    ·exact hj x hx
    ·rw [List.mem_singleton.1 hx];exact h7
  ·exact ⟨_,List.getElem_mem h6,h7⟩
 ·have:i=xs.length:=by omega
  subst this
  simp [h1,h2,h3,h4,h5]
  rwa [List.take_length] at hj
def rowPairs (n a m:Nat):List (Nat×Nat):=((List.range m).filter (fun c=>a≠c)).map fun c=>(a,c)
def allPairs (n m:Nat):List (Nat×Nat):=(List.range m).flatMap fun a=>rowPairs n a n
theorem Rf (n a m:Nat) (h:a=m):rowPairs n a (m+1)=rowPairs n a m:=by
 simp [rowPairs,List.range_succ,h]
theorem Ra (n a m:Nat) (h:a≠m):rowPairs n a (m+1)=rowPairs n a m++[(a,m)]:=by
 simp [rowPairs,List.range_succ,h]
theorem Y8 (n m:Nat):allPairs n (m+1)=allPairs n m++rowPairs n m n:=by
 simp [allPairs,List.range_succ]
theorem Yk {n a c:Nat}:(a,c)∈allPairs n n↔a<n∧c<n∧a≠c:=by
 simp [allPairs,rowPairs]
theorem gk (w h:Int) (f:Value) {Q:Value→Heap→Prop} (Inv:List (Nat×Nat)→Heap→Prop)
 (h0:Inv [] (H++[⟨[.int .i64 w,.int .i64 h],0,25⟩]))
 (hs:∀(done:List (Nat×Nat)) (a c:Nat) (H':Heap),a<(cnt w h).toNat→c<(cnt w h).toNat→a≠c→Inv done H'→wp (vclos (vcall C frz) f [.int .i64 a,.int .i64 c] H') fun r H''=>(r=.bool true∧Inv (done++[(a,c)]) H'')∨(r=.bool false∧Q (.bool false) H''))
 (he:∀H',Inv (allPairs (cnt w h).toNat (cnt w h).toNat) H'→Q (.bool true) H') :
 wp (vcall C frz 95 [.agg #[.int .i64 w,.int .i64 h],f] H) Q:=by
 rw [Qa (fn:=Tryz.f95) Tryz.func95 rfl (by kernel_rfl) rfl]
 have hc:=Qe w h
 simp [Q7]
 refine Qg (fun n t H'=>∃(i:Nat),n=(cnt w h).toNat-i∧i≤(cnt w h).toNat∧t 1=f∧t 5=.int .i64 (cnt w h)∧t 10=.int .i64 (cnt w h)∧t 11=.int .i64 i∧
  Inv (allPairs (cnt w h).toNat i) H') ?_ (n:=(cnt w h).toNat) ⟨0,by simp [allPairs,h0]⟩
 rintro n t H' ⟨i,rfl,hi,h1,h5,h10,h11,hk⟩ ih
 simp [h1,h5,h10,h11]
 refine Qc ?_ ?_<;>intro hlt
 ·simp [h1,h5,h10,h11,hlt]
  refine Qg (fun n t H'=>∃(j:Nat),n=(cnt w h).toNat-j∧j≤(cnt w h).toNat∧t 1=f∧t 5=.int .i64 (cnt w h)∧t 10=.int .i64 (cnt w h)∧t 11=.int .i64 i∧t 6=.int .i64 i∧t 14=.int .i64 (cnt w h)∧t 15=.int .i64 j∧
   Inv (allPairs (cnt w h).toNat i++rowPairs (cnt w h).toNat i j) H') ?_ (n:=(cnt w h).toNat) ⟨0,by simp [h1,h5,h10,h11,rowPairs,hk]⟩
  clear h1 h5 h10 h11 hk
  rintro n t H' ⟨j,rfl,hj,h1,h5,h10,h11,h6,h14,h15,hk⟩ ih2
  simp [h1,h5,h10,h11,h6,h14,h15]
  refine Qc ?_ ?_<;>intro hlj
  ·have ni:i<(cnt w h).toNat:=by omega
   have nj:j<(cnt w h).toNat:=by omega
   have yes:=fun (t':Env) (H':Heap) (x1:t' 1=f) (x5:t' 5=.int .i64 (cnt w h)) (x10:t' 10=.int .i64 (cnt w h)) (x11:t' 11=.int .i64 i) (x6:t' 6=.int .i64 i) (x14:t' 14=.int .i64 (cnt w h)) (x15:t' 15=.int .i64 (j+1:Nat)) (hg:Inv (allPairs (cnt w h).toNat i++rowPairs (cnt w h).toNat i (j+1)) H')=>
    ih2 ((cnt w h).toNat-(j+1)) t' H' ⟨j+1,rfl,by omega,x1,x5,x10,x11,x6,x14,x15,hg⟩ (by omega)
   simp [h1,h5,h10,h11,h6,h14,h15,hlj]
   refine Qv ?_ ?_<;>intro hij
   ·simp [h1,h5,h10,h11,h6,h14,h15,hlj,hij]
    refine yes _ _ (by simp [h1]) (by simp [h5]) (by simp [h10]) (by simp [h11]) (by simp [h6]) (by simp [h14]) ?_ (by rw [Rf _ _ _ (by omega)];exact hk)
    simp;rw [w64 (by omega) (by omega)]
   ·simp [h1,h5,h10,h11,h6,h14,h15,hlj,hij]
    refine Qd (hs _ i j H' ni nj (by omega) hk) ?_
    rintro r H'' (⟨rfl,hq⟩|⟨rfl,hq⟩)
    ·simp [h1,h5,h10,h11,h6,h14,h15,hlj,hij]
     refine yes _ _ (by simp [h1]) (by simp [h5]) (by simp [h10]) (by simp [h11]) (by simp [h6]) (by simp [h14]) ?_ (by rw [Ra _ _ _ (by omega),← List.append_assoc];exact hq)
     simp;rw [w64 (by omega) (by omega)]
    ·simp [h1,h5,h10,h11,h6,h14,h15,hlj,hij]
     exact hq
  ·have:j=(cnt w h).toNat:=by omega
   subst this
   simp [h1,h5,h10,h11,h6,h14,h15,hlj]
   refine ih ((cnt w h).toNat-(i+1)) _ _ ⟨i+1,rfl,by omega,by simp [h1],by simp [h5],by simp [h10],?_,by rw [Y8];exact hk⟩ (by omega)
   ·simp;rw [w64 (by omega) (by omega)]
 ·simp [h1,h5,h10,h11,hlt]
  have:i=(cnt w h).toNat:=by omega
  subst this
  exact he _ hk
theorem Ee (w h:Int) (v u:Value) (b T:List Int) (a c:Int) (r1 r2:Nat) (hI:IsI H v b) (hT:IsI H u T) (hl:b.length≤1073741824) (hz:tsized w h b T) (ha:isN w h a) (hto:isN w h c) (hne:a≠c)
 (g1:H[r1]? = some ⟨[.int .i64 w,.int .i64 h,v],0,28⟩) (g2:H[r2]? = some ⟨[u],0,30⟩) :
 vcall C frz 96 [.int .i64 a,.int .i64 c,.pointer (some ⟨r1,0,some 0⟩),.pointer (some ⟨r2,0,some 0⟩)] H=some (.bool (!decide (walk w h b T a c=[])),H):=by
 rw [Qa (fn:=Tryz.f96) Tryz.func96 rfl (by kernel_rfl) rfl]
 simp [VM.look,g1,g2,hI.one',hI.cells,hT.one',hT.cells,jk _ _ _ _ _ _ _ _ hI hT hl hz ha hto hne]
 by_cases hw:walk w h b T a c=[]
 ·simp [ret,hw]
 ·have:0<(walk w h b T a c).length:=List.length_pos_iff.2 hw
  simp [ret,hw,this]
theorem Bz (w h:Int) (v u:Value) (b T:List Int) (hI:IsI H v b) (hT:IsI H u T) (hl:b.length≤1073741824) :
 wp (vcall C frz 58 [.agg #[.int .i64 w,.int .i64 h,v],.agg #[u]] H) (fun r _=>r=.bool (decide (tableOk w h b T))):=by
 rw [Qa (fn:=Tryz.f58) Tryz.func58 rfl (by kernel_rfl) rfl]
 simp [hI.one',hI.cells,hT.one',hT.cells,Q7,Zf _ _ _ _ (hI.app _) hl]
 refine Qv ?_ ?_<;>intro hm
 ·simp [hm,hT.lenA,wq]
  refine Qc ?_ ?_<;>intro hz
  ·simp [hz]
   have hs:tsized w h b T:=⟨hm,hz⟩
   have hc:=Qe w h
   refine Qg (fun n t H'=>∃(i:Nat),n=(cnt w h).toNat-i∧i≤(cnt w h).toNat∧t 2=.pointer (some ⟨H.length,0,some 0⟩)∧t 3=.pointer (some ⟨H.length+1,0,some 0⟩)∧t 5=.int .i64 (cnt w h)∧t 22=.int .i64 (cnt w h)∧t 23=.int .i64 i∧
    H'=H++[⟨[.int .i64 w,.int .i64 h,v],0,28⟩,⟨[u],0,30⟩]∧∀a,a<i→portOf w h T a a=4) ?_ (n:=(cnt w h).toNat) ⟨0,by simp⟩
   rintro n t H' ⟨i,rfl,hi,h2,h3,h5,h22,h23,rfl,hk⟩ ih
   simp [h2,h3,h5,h22,h23]
   refine Qc ?_ ?_<;>intro hlt
   ·have ni:i<(cnt w h).toNat:=by omega
    obtain ⟨k0,k1,k2,k3⟩:=Gn (Q9 ni) (Q9 ni)
    have e1:IntKind.i64.wrap (i*cnt w h)=i*cnt w h:=w64 (by omega) (by omega)
    have e2:IntKind.i64.wrap (i*cnt w h+i)=i*cnt w h+i:=w64 (by omega) (by omega)
    have q1:∀L,vindexAddr Tryz.prog (H++L) 26 u (.int .i64 (i*cnt w h+i))=some (elp u (i*cnt w h+i:Int).toNat):=fun L=>hT.idxA (e:=3) (by simp) k0 (by omega)
    have q2:∀L,vload Tryz.prog (H++L) 3 (elp u (i*cnt w h+i:Int).toNat)=some (.int .i64 (portOf w h T i i)):=fun L=>hT.loadA (by simp) (by omega)
    simp [h2,h3,h5,h22,h23,hlt,e1,e2,q1,q2]
    refine Qc ?_ ?_<;>intro hp
    ·simp [h2,h3,h5,h22,h23,hlt,hp]
     refine ih ((cnt w h).toNat-(i+1)) _ _ ⟨i+1,rfl,by omega,by simp [h2],by simp [h3],by simp [h5],by simp [h22],?_,rfl,fun a ha=>?_⟩ (by omega)
     ·simp;rw [w64 (by omega) (by omega)]
     ·by_cases hai:a<i
      ·exact hk a hai
      ·have:a=i:=by omega
       subst this;exact hp
    ·simp [h2,h3,h5,h22,h23,hlt,hp]
     exact fun hh=>hp ((hh.2 i ni i ni).1 rfl)
   ·simp [h2,h3,h5,h22,h23,hlt]
    have:i=(cnt w h).toNat:=by omega
    subst this
    refine Qd (gk w h _ (Q:=fun r _=>r=.bool (decide (tableOk w h b T))) (fun done H'=>∃L,H'=H++[⟨[.int .i64 w,.int .i64 h,v],0,28⟩,⟨[u],0,30⟩]++L∧∀p∈done,walk w h b T p.1 p.2≠[]) ⟨_,rfl,by simp⟩ ?_ ?_) ?_
    ·rintro done a c _ ha hc' hne ⟨L,rfl,hd⟩
     simp
     rw [Ee w h v u b T a c _ _ (hI.app _) (hT.app _) hl hs (Q9 ha) (Q9 hc') (by omega) (by simp) (by simp)]
     simp
     by_cases hw:walk w h b T a c=[]
     ·refine .inr ⟨hw,?_⟩
      exact fun hh=>(hh.2 a (by omega) c (by omega)).2 (by omega) hw
     ·refine .inl ⟨hw,fun p q hp=>?_⟩
      rcases hp with hp|⟨rfl,rfl⟩
      ·exact hd (p,q) hp
      ·exact hw
    ·rintro _ ⟨L,rfl,hd⟩
     simp
     exact ⟨hs,fun a ha c hc'=>⟨fun _=>hk a ha,fun hne=>hd (a,c) (Yk.2 ⟨ha,hc',hne⟩)⟩⟩
    ·rintro _ H' rfl
     simp
  ·simp [hz]
   exact fun hh=>hz hh.1.2
 ·simp [hm]
  exact fun hh=>hm hh.1.1
theorem Sg (w h:Int) (v u:Value) (b T:List Int) (hI:IsI H v b) (hT:IsI H u T) (hl:b.length≤1073741824) :
 vcall C frz 58 [.agg #[.int .i64 w,.int .i64 h,v],.agg #[u]] H=some (.bool (decide (tableOk w h b T)),H):=
 (Bz w h v u b T hI hT hl).exact (by simp) rfl
def castOk (w h:Int) (b T:List Int) (a:Int) (ts:List Int):Prop:=tableOk w h b T∧isN w h a∧∀x∈ts,isN w h x
instance (w h:Int) (b T:List Int) (a:Int) (ts:List Int):Decidable (castOk w h b T a ts):=inferInstanceAs (Decidable (_∧_))
def classesOk (w h:Int) (b A B:List Int):Prop:=tableOk w h b A∧tableOk w h b B
instance (w h:Int) (b A B:List Int):Decidable (classesOk w h b A B):=inferInstanceAs (Decidable (_∧_))
abbrev PkD:=Int×Int×Int×Int×Int
def packetOk (w h:Int) (p:PkD):Prop:=inR 1 p.1 9999∧isN w h p.2.1∧isN w h p.2.2.1∧p.2.1≠p.2.2.1∧inR 0 p.2.2.2.1 1∧inR 1 p.2.2.2.2 5
instance (w h:Int) (p:PkD):Decidable (packetOk w h p):=inferInstanceAs (Decidable (_∧_))
def pkV (p:PkD):Value:=.agg #[.int .i64 p.1,.int .i64 p.2.1,.int .i64 p.2.2.1,.int .i64 p.2.2.2.1,.int .i64 p.2.2.2.2]
theorem Y2 (w h:Int) (v u1 u2:Value) (b A B:List Int) (hI:IsI H v b) (h1:IsI H u1 A) (h2:IsI H u2 B) (hl:b.length≤1073741824) :
 vcall C frz 27 [.agg #[.int .i64 w,.int .i64 h,v],.agg #[u1,u2]] H=some (.bool (decide (classesOk w h b A B)),H):=by
 rw [Qa (fn:=Tryz.f27) Tryz.func27 rfl (by kernel_rfl) rfl]
 have one:=And.intro (And.intro h1.one' h1.cells) (And.intro h2.one' h2.cells)
 simp [hI.one',hI.cells,one,Sg _ _ _ _ _ _ (hI.app _) (h1.app _) hl]
 refine W2 _ _ ?_ ?_<;>intro g<;>simp [g,classesOk,hI.one',hI.cells,one,Sg _ _ _ _ _ _ (hI.app _) (h2.app _) hl]
theorem E4 (w h:Int) (p:PkD):vcall C frz 51 [.agg #[.int .i64 w,.int .i64 h],pkV p] H=some (.bool (decide (packetOk w h p)),H):=by
 obtain ⟨i,a,b,c,l⟩:=p
 rw [Qa (fn:=Tryz.f51) Tryz.func51 rfl (by kernel_rfl) rfl]
 by_cases g1:inR 1 i 9999
 ·by_cases g2:isN w h a
  ·by_cases g3:isN w h b
   ·by_cases g4:a=b
    ·simp [pkV,Qm,Wz,g1,g2,g3,g4,packetOk]
    ·by_cases g5:inR 0 c 1
     ·by_cases g6:inR 1 l 5<;>simp [pkV,Qm,Wz,g1,g2,g3,g4,g5,g6,packetOk]
     ·simp [pkV,Qm,Wz,g1,g2,g3,g4,g5,packetOk]
   ·simp [pkV,Qm,Wz,g1,g2,g3,packetOk]
  ·simp [pkV,Qm,Wz,g1,g2,packetOk]
 ·simp [pkV,Qm,Wz,g1,packetOk]
def pkF:Fl PkD:=⟨5,fun a=>[.int .i64 a.1,.int .i64 a.2.1,.int .i64 a.2.2.1,.int .i64 a.2.2.2.1,.int .i64 a.2.2.2.2],fun _=>rfl⟩
@[simp] theorem Qel:pkF.n=5:=rfl
theorem jb (a:PkD):pkF.f a=[.int .i64 a.1,.int .i64 a.2.1,.int .i64 a.2.2.1,.int .i64 a.2.2.2.1,.int .i64 a.2.2.2.2]:=rfl
def flitOk (w h:Int) (f:FlitD):Prop:=isN w h f.2.1∧inR 0 f.2.2.1 1
instance (w h:Int) (f:FlitD):Decidable (flitOk w h f):=inferInstanceAs (Decidable (_∧_))
def flitsOk (w h:Int) (l:List FlitD):Prop:=∀f∈l,flitOk w h f
instance (w h:Int) (l:List FlitD):Decidable (flitsOk w h l):=inferInstanceAs (Decidable (∀f∈l,flitOk w h f))
def sizesOk (x:NetD):Prop:=(x.2.2.1.length:Int)=10*cnt x.1.1 x.1.2.1∧(x.2.2.2.1.length:Int)=10*cnt x.1.1 x.1.2.1∧(x.2.2.2.2.1.length:Int)=5*cnt x.1.1 x.1.2.1∧(x.2.2.2.2.2.1.length:Int)=cnt x.1.1 x.1.2.1∧(x.2.2.2.2.2.2.1.length:Int)=cnt x.1.1 x.1.2.1
instance (x:NetD):Decidable (sizesOk x):=inferInstanceAs (Decidable (_∧_))
def bufOk (w h:Int) (l:List FlitD) (c:Int):Prop:=l.length≤3∧(∀f∈l,f.2.2.1=c)∧flitsOk w h l
instance (w h:Int) (l:List FlitD) (c:Int):Decidable (bufOk w h l c):=inferInstanceAs (Decidable (_∧_))
def srcOk (w h:Int) (l:List FlitD):Prop:=l.length≤60∧flitsOk w h l
instance (w h:Int) (l:List FlitD):Decidable (srcOk w h l):=inferInstanceAs (Decidable (_∧_))
def netOk (x:NetD):Prop:=classesOk x.1.1 x.1.2.1 x.1.2.2 x.2.1.1 x.2.1.2∧sizesOk x∧(∀i,i<x.2.2.1.length→bufOk x.1.1 x.1.2.1 (x.2.2.1.getD i []) ((i:Int)%2))∧(∀l∈x.2.2.2.2.2.1,srcOk x.1.1 x.1.2.1 l)∧
 (∀o∈x.2.2.2.1,inR (-1) o 4)∧(∀o∈x.2.2.2.2.1,inR 0 o 9)∧inR 0 x.2.2.2.2.2.2.2 1000000
instance (x:NetD):Decidable (netOk x):=inferInstanceAs (Decidable (_∧_))
theorem Oz (w h:Int) (v:Value) (xs:List FlitD) (hI:Rd flF H v xs) (hl:xs.length≤1073741824) :
 vcall C frz 63 [.agg #[.int .i64 w,.int .i64 h],v] H=some (.bool (decide (flitsOk w h xs)),H):=by
 refine wp.exact (by simp) ?_ rfl
 rw [Qa (fn:=Tryz.f63) Tryz.func63 rfl (by kernel_rfl) rfl]
 generalize hB:decide (flitsOk w h xs)=B
 simp [hI.app.len (P:=Tryz.prog) (ty:=109) (by simp)]
 refine Qg (fun n t H'=>∃i:Nat,n=xs.length-i∧i≤xs.length∧t 2=.pointer (some ⟨H.length,0,some 0⟩)∧t 7=v∧t 8=.int .i64 xs.length∧t 9=.int .i64 i∧Chg H H' []∧H'[H.length]? = some ⟨[.int .i64 w,.int .i64 h],0,25⟩∧∀f∈xs.take i,flitOk w h f) ?_ (n:=xs.length)
  ⟨0,rfl,by omega,by simp,by simp,by simp,by simp,Chg.app _,by simp,by simp⟩
 rintro n t H' ⟨i,rfl,hi,t2,t7,t8,t9,c,b2,hk⟩ ih
 simp [t2,t7,t8,t9]
 refine Qc ?_ ?_<;>intro g
 ·have hi':i<xs.length:=by omega
  have rd:=hI.chg c (by simp)
  have q1:=rd.idx (P:=Tryz.prog) (ty:=109) (e:=144) (by simp) (i:=(i:Int)) (by omega) (by omega)
  have q2:=rd.load (P:=Tryz.prog) (e:=144) (by simp) hi'
  simp only [Int.toNat_natCast,Fd] at q1 q2
  have l0:=c.1
  have hF:H.length≤H'.length:=l0
  have b2':=fun r=>Qb (Qn b2 [r]) (Qh H'.length r) (by simp;have:=Qu b2;omega)
  have hlt:=Qu b2
  have hne:H'.length≠H.length:=by omega
  have key:flitOk w h xs[i]↔isN w h xs[i].2.1∧inR 0 xs[i].2.2.1 1:=Iff.rfl
  have hsucc:∀f∈xs.take (i+1),f∈xs.take i∨f=xs[i]:=fun f hf=>by
   rw [List.take_succ_eq_append_getElem hi'] at hf
   rcases List.mem_append.1 hf with hf|hf
   ·exact .inl hf
   ·exact .inr (List.mem_singleton.1 hf)
  have hno:¬flitOk w h xs[i]→¬flitsOk w h xs:=fun hh k=>hh (k _ (List.getElem_mem hi'))
  simp [t2,t7,t8,t9,q1,q2,hF,Yu,VM.look,b2,Qn b2,Wz,Qm]
  by_cases g1:isN w h xs[i].2.1
  ·by_cases g2:inR 0 xs[i].2.2.1 1
   ·simp [t2,t7,t8,t9,g1,g2,Qm]
    refine ih (xs.length-(i+1)) _ _ ⟨i+1,rfl,by omega,by simp [t2],by simp [t7],by simp [t8],?_,c.trans (Chg.app _),Qn b2 _,fun f hf=>?_⟩ (by omega)
    ·simp;rw [w64 (by omega) (by omega)]
    ·rcases hsucc f hf with hf|rfl
     ·exact hk f hf
     ·exact ⟨g1,g2⟩
   ·simp [t2,t7,t8,t9,g1,g2,Qm]
    rw [← hB];exact decide_eq_false (hno (fun hh=>g2 hh.2))
  ·simp [t2,t7,t8,t9,g1]
   rw [← hB];exact decide_eq_false (hno (fun hh=>g1 hh.1))
 ·have:i=xs.length:=by omega
  subst this
  rw [List.take_length] at hk
  simp [t2,t7,t8,t9]
  rw [← hB];exact decide_eq_true hk
theorem J0 (v:Value) (xs:List FlitD) (c:Int) (hI:Rd flF H v xs) (hl:xs.length≤1073741824) :
 wp (vcall C frz 62 [v,.int .i64 c] H) (fun r H'=>Ow flF 144 H' r (xs.filter fun f=>f.2.2.1=c)∧(∀i∈ids r,H.length≤i)∧Chg H H' []):=by
 rw [Qa (fn:=Tryz.f62) Tryz.func62 rfl (by kernel_rfl) rfl]
 simp [hI.app.len (P:=Tryz.prog) (ty:=109) (by simp)]
 refine Qg (fun n t H'=>∃(i:Nat) (r:Value),n=xs.length-i∧i≤xs.length∧t 1=.int .i64 c∧t 5=r∧t 9=v∧t 10=.int .i64 xs.length∧t 11=.int .i64 i∧Chg H H' []∧Ow flF 144 H' r ((xs.take i).filter fun f=>f.2.2.1=c)∧(∀j∈ids r,H.length≤j)) ?_ (n:=xs.length)
  ⟨0,.slice (some ⟨H.length,0,some 0⟩) 0 0,rfl,by omega,by simp,by simp,by simp,by simp,by simp,Chg.app _,Ow.new0 (D:=flF) (xs:=[]) rfl rfl rfl rfl,by simp⟩
 rintro n t H' ⟨i,r,rfl,hi,t1,t5,t9,t10,t11,ch,o,nr⟩ ih
 simp [t1,t5,t9,t10,t11]
 refine Qc ?_ ?_<;>intro g
 ·have hi':i<xs.length:=by omega
  have rd:=hI.chg ch (by simp)
  have q1:=rd.idx (P:=Tryz.prog) (ty:=109) (e:=144) (by simp) (i:=(i:Int)) (by omega) (by omega)
  have q2:=rd.load (P:=Tryz.prog) (e:=144) (by simp) hi'
  simp only [Int.toNat_natCast,Fd] at q1 q2
  have hF:H.length≤H'.length:=ch.1
  have hfl:=List.length_filter_le (fun f:FlitD=>decide (f.2.2.1=c)) (xs.take i)
  have htl:(xs.take i).length≤i:=by simp;omega
  simp [t1,t5,t9,t10,t11,q1,q2,hF,Yu,VM.look]
  refine Qc ?_ ?_<;>intro g1
  ·obtain ⟨r',H2,hap,o2,c2,n2⟩:=(o.app (L:=[⟨flF.f xs[i],0,144⟩])).push (P:=Tryz.prog) (frz:=H.length) (ty:=109) (a:=xs[i]) (by simp) rfl (by omega) nr
   simp only [Yu,List.append_assoc,List.cons_append,List.nil_append,List.length_append,List.length_cons,List.length_nil] at hap
   simp [t1,t5,t9,t10,t11,hap]
   refine ih (xs.length-(i+1)) _ _ ⟨i+1,r',rfl,by omega,by simp [t1],by simp,by simp [t9],by simp [t10],?_,(ch.trans (Chg.app _)).trans' c2 (fun j hj=>.inr (nr j hj)),?_,fun j hj=>?_⟩ (by omega)
   ·simp;rw [w64 (by omega) (by omega)]
   ·rw [List.take_succ_eq_append_getElem hi',List.filter_append];simpa [g1] using o2
   ·rcases n2 j hj with h1|h1
    ·exact nr j h1
    ·simp at h1;omega
  ·simp [t1,t5,t9,t10,t11,g1]
   refine ih (xs.length-(i+1)) _ _ ⟨i+1,r,rfl,by omega,by simp [t1],by simp [t5],by simp [t9],by simp [t10],?_,ch.trans (Chg.app _),?_,nr⟩ (by omega)
   ·simp;rw [w64 (by omega) (by omega)]
   ·rw [List.take_succ_eq_append_getElem hi',List.filter_append];simpa [g1] using o.app
 ·have:i=xs.length:=by omega
  subst this
  rw [List.take_length] at o
  simp [t1,t5,t9,t10,t11]
  exact ⟨o,nr,ch⟩
theorem Nl {l:List FlitD} {c:Int}:(l.filter fun f=>f.2.2.1=c).length=l.length↔∀f∈l,f.2.2.1=c:=by
 rw [List.length_filter_eq_length_iff];simp
theorem tmod2 (i:Nat):(i:Int).tmod 2=(i:Int)%2:=Int.tmod_eq_emod_of_nonneg (by omega)
theorem Rz {α:Type} {l:List α} {d:α} {i:Nat} (h:i<l.length):l.getD i d=l[i]:=by simp [List.getD_eq_getElem?_getD,h]
theorem Nw {α:Type} {l:List α} {i:Nat} (h:i<l.length) {x:α} (hx:x∈l.take (i+1)):x∈l.take i∨x=l[i]:=by
 rw [List.take_succ_eq_append_getElem h] at hx
 rcases List.mem_append.1 hx with hx|hx
 ·exact .inl hx
 ·exact .inr (List.mem_singleton.1 hx)
theorem Sd {v:NetV} {x:NetD} (o:dNet.Ow H v x):vcall C frz 32 [dNet.val v x] H=some (.bool (decide (netOk x)),H):=by
 have oo:=Qk o
 obtain ⟨u2,⟨u3,u4⟩,⟨u5,h5⟩,u6,u7,⟨u8,h8⟩,⟨u9,h9⟩,_⟩:=v
 obtain ⟨⟨w,h,b⟩,⟨A,B⟩,buf,own,turn,src,arr,tm⟩:=x
 obtain ⟨o2,o3,o5,o6,o7,o8,o9,_⟩:=o
 simp only at o2 o3 o5 o6 o7 o8 o9
 obtain ⟨p2,p3,p4,p5,p6,p7,p8,p9⟩:=oo
 simp only at p2 p3 p4 p5 p6 p7 p8 p9
 rw [Ql]
 refine wp.exact (by simp) ?_ rfl
 rw [Qa (fn:=Tryz.f32) Tryz.func32 rfl (by kernel_rfl) rfl]
 generalize hY:decide (netOk ((w,h,b),(A,B),buf,own,turn,src,arr,tm))=Y
 obtain ⟨N,hN⟩:∃N:Nat,cnt w h=N:=⟨(cnt w h).toNat,by have:=Qe w h;omega⟩
 have hN2:N≤16:=by have:=Qe w h;omega
 have w10:=@w6 (10*(N:Int)) (by omega)
 have w5:=@w6 (5*(N:Int)) (by omega)
 have cok:=fun F L=>Y2 (frz:=F) (H:=H++L) w h u2 u3 u4 b A B (Rd.isI o2.1.rd.app) (Rd.isI o3.1.1.rd.app) (Rd.isI o3.2.1.rd.app) o2.2
 have ln5:=fun (L:Heap)=>(RdL.app (L:=L) o5.1.rd).1.len (P:=Tryz.prog) (ty:=36) (by simp)
 have ln8:=fun (L:Heap)=>(RdL.app (L:=L) o8.1.rd).1.len (P:=Tryz.prog) (ty:=36) (by simp)
 have ln9:=fun (L:Heap)=>(RdL.app (L:=L) o9.1.rd).1.len (P:=Tryz.prog) (ty:=36) (by simp)
 have ln6:=fun (L:Heap)=>(Rd.app (L:=L) o6.1.rd).len (P:=Tryz.prog) (ty:=26) (by simp)
 have ln7:=fun (L:Heap)=>(Rd.app (L:=L) o7.1.rd).len (P:=Tryz.prog) (ty:=26) (by simp)
 have hl5:=o5.1.rd.2.1
 have hl8:=o8.1.rd.2.1
 have hl9:=o9.1.rd.2.1
 have hb5:=o5.2.1
 have hb8:=o8.2.1
 simp only at ln5 ln8 ln9 ln6 ln7 hl5 hl8 hl9 hb5 hb8
 have no:¬netOk ((w,h,b),(A,B),buf,own,turn,src,arr,tm)→false=Y:=fun hh=>by rw [← hY];exact (decide_eq_false hh).symm
 have no':¬netOk ((w,h,b),(A,B),buf,own,turn,src,arr,tm)→Y=false:=fun hh=>(no hh).symm
 have ones:=And.intro p2 (And.intro p3 (And.intro p4 (And.intro p5 (And.intro p6 (And.intro p7 (And.intro p8 p9))))))
 simp [ones,Q7,hN,cok,w10,w5]
 by_cases c1:classesOk w h b A B
 rotate_left
 ·simp [c1];exact no' (fun k=>c1 k.1)
 by_cases c2:(buf.length:Int)=10*N
 rotate_left
 ·simp [c1,c2,ones,ln5,hl5,w10];exact no' (fun k=>c2 (by have:=k.2.1.1;simp only [hN] at this;exact this))
 by_cases c3:(own.length:Int)=10*N
 rotate_left
 ·simp [c1,c2,c3,ones,ln5,hl5,ln6,w10];exact no' (fun k=>c3 (by have:=k.2.1.2.1;simp only [hN] at this;exact this))
 by_cases c4:(turn.length:Int)=5*N
 rotate_left
 ·simp [c1,c2,c3,c4,ones,ln5,hl5,ln6,ln7,w10,w5];exact no' (fun k=>c4 (by have:=k.2.1.2.2.1;simp only [hN] at this;exact this))
 by_cases c5:(src.length:Int)=N
 rotate_left
 ·simp [c1,c2,c3,c4,c5,ones,ln5,hl5,ln6,ln7,ln8,hl8,w10,w5];exact no' (fun k=>c5 (by have:=k.2.1.2.2.2.1;simp only [hN] at this;exact this))
 by_cases c6:(arr.length:Int)=N
 rotate_left
 ·simp [c1,c2,c3,c4,c5,c6,ones,ln5,hl5,ln6,ln7,ln8,hl8,ln9,hl9,w10,w5];exact no' (fun k=>c6 (by have:=k.2.1.2.2.2.2;simp only [hN] at this;exact this))
 have hsz:sizesOk ((w,h,b),(A,B),buf,own,turn,src,arr,tm):=by unfold sizesOk;simp only [hN];exact ⟨c2,c3,c4,c5,c6⟩
 simp [c1,c2,c3,c4,c5,c6,ones,ln5,hl5,ln6,ln7,ln8,hl8,ln9,hl9,w10,w5]
 refine Qg (fun n t H'=>∃i:Nat,n=buf.length-i∧i≤buf.length∧t 1=.pointer (some ⟨H.length,0,some 0⟩)∧t 57=u5∧t 58=.int .i64 buf.length∧t 59=.int .i64 i∧Chg H H' []∧
  H'[H.length]? = some ⟨[.int .i64 w,.int .i64 h,u2,u3,u4,u5,u6,u7,u8,u9,.int .i64 tm],0,38⟩∧∀j,j<i→bufOk w h (buf.getD j []) ((j:Int)%2)) ?_ (n:=buf.length)
  ⟨0,rfl,by omega,by simp,by simp,by simp [c2],by simp,Chg.app _,by simp,by omega⟩
 rintro n t H' ⟨i,rfl,hi,t1,t57,t58,t59,ch,b0,hk⟩ ih
 simp [t1,t57,t58,t59]
 refine Qc ?_ ?_<;>intro g
 ·have hi':i<buf.length:=by omega
  have rl:=o5.1.rd.chg ch (by simp)
  obtain ⟨u,_,a2,a3,a4⟩:=Xi rl (ty:=36) (e:=109) (by simp) (by simp) hi'
  have hlen:=o5.2.2 _ (List.getElem_mem hi')
  simp only at a2 a3 a4 hlen
  have lu:=a4.len (P:=Tryz.prog) (ty:=109) (by simp)
  have hbg:buf.getD i []=buf[i]:=Rz hi'
  have bad:¬bufOk w h buf[i] ((i:Int)%2)→Y=false:=fun hh=>no' (fun k=>hh (by have:=k.2.2.1 i hi';simp only [hbg] at this;exact this))
  obtain ⟨l,hl⟩:∃l,l=buf[i]:=⟨_,rfl⟩
  rw [← hl] at a4 lu hlen bad hbg
  simp [t1,t57,t58,t59,a2,a3,lu]
  by_cases g1:l.length≤3
  rotate_left
  ·have g1':(3:Int)<l.length:=by omega
   simp [g1'];exact bad (fun k=>g1 k.1)
  have g1':¬(3:Int)<l.length:=by omega
  simp [g1',t1,t57,t58,t59,tmod2]
  refine Qd (J0 u l ((i:Int)%2) a4 (by omega)) ?_
  rintro r H2 ⟨orr,nr,cc⟩
  have b0:=Qb b0 cc (by simp)
  have lr:=orr.rd.len (P:=Tryz.prog) (ty:=109) (by simp)
  have lu2:=(a4.chg cc (by simp)).len (P:=Tryz.prog) (ty:=109) (by simp)
  have hfl:=Nl (l:=l) (c:=(i:Int)%2)
  generalize (l.filter fun f=>f.2.2.1=(i:Int)%2).length=q at *
  simp [t1,t57,t58,t59,lr,lu2]
  by_cases g2:q=l.length
  rotate_left
  ·have g2':¬(q:Int)=l.length:=by omega
   simp [g2'];exact bad (fun k=>g2 (hfl.2 k.2.1))
  have af:=fun F=>Oz (frz:=F) (H:=H2) w h u l (a4.chg cc (by simp)) (by omega)
  simp [g2,t1,t57,t58,t59,VM.look,b0,af]
  by_cases g3:flitsOk w h l
  rotate_left
  ·simp [g3];exact bad (fun k=>g3 k.2.2)
  simp [g3,t1,t57,t58,t59]
  refine ih (buf.length-(i+1)) _ _ ⟨i+1,rfl,by omega,by simp [t1],by simp [t57],by simp [t58],?_,ch.trans cc,b0,fun j hj=>?_⟩ (by omega)
  ·simp;rw [w64 (by omega) (by omega)]
  ·by_cases hji:j<i
   ·exact hk j hji
   ·have:j=i:=by omega
    subst this
    rw [hbg];exact ⟨g1,hfl.1 g2,g3⟩
 ·have:i=buf.length:=by omega
  subst this
  clear ih
  have l8:=(o8.1.rd.chg ch (by simp)).1.len (P:=Tryz.prog) (ty:=36) (by simp)
  simp only at l8
  simp [t1,t57,t58,t59,VM.look,b0,ones,l8,hl8]
  refine Qg (fun n t H2=>∃i:Nat,n=src.length-i∧i≤src.length∧t 1=.pointer (some ⟨H.length,0,some 0⟩)∧t 87=u8∧t 88=.int .i64 src.length∧t 89=.int .i64 i∧H2=H'∧∀l∈src.take i,srcOk w h l) ?_ (n:=src.length)
   ⟨0,rfl,by omega,by simp [t1],by simp,by simp,by simp,rfl,by simp⟩
  clear t1 t57 t58 t59
  rintro n t H2 ⟨i,rfl,hi,t1,t87,t88,t89,rfl,hk2⟩ ih
  simp [t1,t87,t88,t89]
  refine Qc ?_ ?_<;>intro g
  ·have hi':i<src.length:=by omega
   have rl:=o8.1.rd.chg ch (by simp)
   obtain ⟨u,_,a2,a3,a4⟩:=Xi rl (ty:=36) (e:=109) (by simp) (by simp) hi'
   have hlen:=o8.2.2 _ (List.getElem_mem hi')
   simp only at a2 a3 a4 hlen
   have lu:=a4.len (P:=Tryz.prog) (ty:=109) (by simp)
   have bad:¬srcOk w h src[i]→Y=false:=fun hh=>no' (fun k=>hh (k.2.2.2.1 _ (List.getElem_mem hi')))
   have hst:=fun {x} (hx:x∈src.take (i+1))=>Nw hi' hx
   obtain ⟨l,hl⟩:∃l,l=src[i]:=⟨_,rfl⟩
   rw [← hl] at a4 lu hlen bad hst
   simp [t1,t87,t88,t89,a2,a3,lu]
   by_cases g1:l.length≤60
   rotate_left
   ·have g1':(60:Int)<l.length:=by omega
    simp [g1'];exact bad (fun k=>g1 k.1)
   have g1':¬(60:Int)<l.length:=by omega
   have af:=fun F=>Oz (frz:=F) (H:=H2) w h u l a4 (by omega)
   simp [g1',t1,t87,t88,t89,VM.look,b0,af]
   by_cases g3:flitsOk w h l
   rotate_left
   ·simp [g3];exact bad (fun k=>g3 k.2)
   simp [g3,t1,t87,t88,t89]
   refine ih (src.length-(i+1)) _ _ ⟨i+1,rfl,by omega,by simp [t1],by simp [t87],by simp [t88],?_,rfl,fun x hx=>?_⟩ (by omega)
   ·simp;rw [w64 (by omega) (by omega)]
   ·rcases hst hx with hx|rfl
    ·exact hk2 x hx
    ·exact ⟨g1,g3⟩
  ·have:i=src.length:=by omega
   subst this
   rw [List.take_length] at hk2
   have ai:=fun F=>Y4 (frz:=F) (H:=H2) u6 own (-1) 4 (Rd.isI (o6.1.rd.chg ch (by simp))) (by have:=o6.2;omega)
   have ai2:=fun F=>Y4 (frz:=F) (H:=H2) u7 turn 0 9 (Rd.isI (o7.1.rd.chg ch (by simp))) (by have:=o7.2;omega)
   have ai3:=fun F=>Qm (frz:=F) (H:=H2) tm 0 1000000
   have hiff:netOk ((w,h,b),(A,B),buf,own,turn,src,arr,tm)↔(∀x∈own,inR (-1) x 4)∧(∀x∈turn,inR 0 x 9)∧inR 0 tm 1000000:=
    ⟨fun k=>k.2.2.2.2,fun k=>⟨c1,hsz,hk,hk2,k⟩⟩
   have hY2:Y=(decide (∀x∈own,inR (-1) x 4)&&decide (∀x∈turn,inR 0 x 9)&&decide (inR 0 tm 1000000)):=by
    rw [← hY,Bool.eq_iff_iff];simp only [decide_eq_true_eq,Bool.and_eq_true,and_assoc];exact hiff
   generalize decide (∀x∈own,inR (-1) x 4)=P1 at *
   generalize decide (∀x∈turn,inR 0 x 9)=P2 at *
   generalize decide (inR 0 tm 1000000)=P3 at *
   simp [t1,t87,t88,t89,VM.look,b0,ones,ai,ai2,ai3,hY2]
   cases P1<;>cases P2<;>cases P3<;>simp [t1,VM.look,b0,ones,ai2,ai3]
theorem xo (x y:FlitD):cseq [0,0,0,1,1] (flF.f x) (flF.f y)=some (decide (x=y)):=by
 obtain ⟨p,t,c,h,l⟩:=x
 obtain ⟨p',t',c',h',l'⟩:=y
 simp only [Yu,cseq,ceq,if_true]
 congr 1
 rw [Bool.eq_iff_iff];simp [and_assoc]
theorem wr (a b:Value) (xs ys:List Int) (ha:Rd Fl.int H a xs) (hb:Rd Fl.int H b ys) (hl:xs.length≤1073741824) :
 vcall C frz 42 [a,b] H=some (.bool (decide (xs=ys)),H):=by
 refine wp.exact (by simp) ?_ rfl
 rw [Qa (fn:=Tryz.f42) Tryz.func42 rfl (by kernel_rfl) rfl]
 generalize hY:decide (xs=ys)=Y
 have la:=ha.len (P:=Tryz.prog) (ty:=26) (by simp)
 have lb:=hb.len (P:=Tryz.prog) (ty:=26) (by simp)
 have no:¬xs=ys→Y=false:=fun hh=>by rw [← hY];exact decide_eq_false hh
 simp [la,lb]
 refine Qc ?_ ?_<;>intro h0
 ·have h0':xs.length=ys.length:=by omega
  simp [la]
  refine Qg (fun n t H'=>∃i:Nat,n=xs.length-i∧i≤xs.length∧t 0=a∧t 1=b∧t 12=.int .i64 xs.length∧t 13=.int .i64 i∧H'=H∧xs.take i=ys.take i) ?_ (n:=xs.length) ⟨0,rfl,by omega,by simp,by simp,by simp,by simp,rfl,by simp⟩
  rintro n t H' ⟨i,rfl,hi,t0,t1,t12,t13,rfl,h4⟩ ih
  simp [t0,t1,t12,t13,la]
  refine Qc ?_ ?_<;>intro h
  ·have hx:i<xs.length:=by omega
   have hy:i<ys.length:=by omega
   have q1:=ha.idx (P:=Tryz.prog) (ty:=26) (e:=3) (by simp) (i:=(i:Int)) (by omega) (by omega)
   have q2:=ha.cell1 (P:=Tryz.prog) (e:=3) rfl (by simp) hx
   have q3:=hb.idx (P:=Tryz.prog) (ty:=26) (e:=3) (by simp) (i:=(i:Int)) (by omega) (by omega)
   have q4:=hb.cell1 (P:=Tryz.prog) (e:=3) rfl (by simp) hy
   simp only [Int.toNat_natCast,Fl.int_n,Nat.mul_one] at q1 q2 q3 q4
   simp at q2 q4
   simp [t0,t1,t12,t13]
   rw [Qf (h:=by kernel_rfl)]
   simp [t0,t1,t12,t13,q1,q2,q3,q4]
   refine Qc ?_ ?_<;>intro h5
   ·simp [t0,t1,t12,t13]
    refine ih (xs.length-(i+1)) _ _ ⟨i+1,rfl,by omega,by simp [t0],by simp [t1],by simp [t12],?_,rfl,?_⟩ (by omega)
    ·simp;rw [w64 (by omega) (by omega)]
    ·rw [List.take_succ_eq_append_getElem hx,List.take_succ_eq_append_getElem hy,h4,h5]
   ·simp [t0,t1,t12,t13]
    exact no (fun hh=>h5 (by subst hh;rfl))
  ·have:i=xs.length:=by omega
   subst this
   rw [List.take_length,List.take_of_length_le (by omega)] at h4
   simp [t0,t1,t12,t13]
   rw [← hY];exact decide_eq_true h4
 ·simp
  exact no (fun hh=>h0 (by rw [hh]))
theorem jt (a b:Value) (xs ys:List FlitD) (ha:Rd flF H a xs) (hb:Rd flF H b ys) (hl:xs.length≤1073741824) :
 vcall C frz 111 [a,b] H=some (.bool (decide (xs=ys)),H):=by
 refine wp.exact (by simp) ?_ rfl
 rw [Qa (fn:=Tryz.f111) Tryz.func111 rfl (by kernel_rfl) rfl]
 generalize hY:decide (xs=ys)=Y
 have la:=ha.len (P:=Tryz.prog) (ty:=109) (by simp)
 have lb:=hb.len (P:=Tryz.prog) (ty:=109) (by simp)
 have no:¬xs=ys→Y=false:=fun hh=>by rw [← hY];exact decide_eq_false hh
 simp [la,lb]
 refine Qc ?_ ?_<;>intro h0
 ·have h0':xs.length=ys.length:=by omega
  simp [la]
  refine Qg (fun n t H'=>∃i:Nat,n=xs.length-i∧i≤xs.length∧t 0=a∧t 1=b∧t 12=.int .i64 xs.length∧t 13=.int .i64 i∧H'=H∧xs.take i=ys.take i) ?_ (n:=xs.length) ⟨0,rfl,by omega,by simp,by simp,by simp,by simp,rfl,by simp⟩
  rintro n t H' ⟨i,rfl,hi,t0,t1,t12,t13,rfl,h4⟩ ih
  simp [t0,t1,t12,t13,la]
  refine Qc ?_ ?_<;>intro h
  ·have hx:i<xs.length:=by omega
   have hy:i<ys.length:=by omega
   have q1:=ha.idx (P:=Tryz.prog) (ty:=109) (e:=144) (by simp) (i:=(i:Int)) (by omega) (by omega)
   have q2:=ha.load (P:=Tryz.prog) (e:=144) (by simp) hx
   have q3:=hb.idx (P:=Tryz.prog) (ty:=109) (e:=144) (by simp) (i:=(i:Int)) (by omega) (by omega)
   have q4:=hb.load (P:=Tryz.prog) (e:=144) (by simp) hy
   simp only [Int.toNat_natCast,Fd] at q1 q2 q3 q4
   simp [t0,t1,t12,t13]
   rw [Qf (h:=by kernel_rfl)]
   simp [t0,t1,t12,t13,q1,q2,q3,q4,xo,-cseq]
   refine Qc ?_ ?_<;>intro h5
   ·simp [t0,t1,t12,t13]
    refine ih (xs.length-(i+1)) _ _ ⟨i+1,rfl,by omega,by simp [t0],by simp [t1],by simp [t12],?_,rfl,?_⟩ (by omega)
    ·simp;rw [w64 (by omega) (by omega)]
    ·rw [List.take_succ_eq_append_getElem hx,List.take_succ_eq_append_getElem hy,h4,h5]
   ·simp [t0,t1,t12,t13]
    exact no (fun hh=>h5 (by subst hh;rfl))
  ·have:i=xs.length:=by omega
   subst this
   rw [List.take_length,List.take_of_length_le (by omega)] at h4
   simp [t0,t1,t12,t13]
   rw [← hY];exact decide_eq_true h4
 ·simp
  exact no (fun hh=>h0 (by rw [hh]))
def flit0:FlitD:=(0,0,0,false,false)
def wholeAt (l:List FlitD) (i:Nat):FlitD:=((l.getD 0 flit0).1,(l.getD 0 flit0).2.1,(l.getD 0 flit0).2.2.1,decide ((i:Int)=0),decide ((i:Int)=(l.length:Int)-1))
def whole (l:List FlitD):Prop:=(∀i,i<l.length→l.getD i flit0=wholeAt l i)∧0<l.length
instance (l:List FlitD):Decidable (whole l):=inferInstanceAs (Decidable (_∧_))
def part (l:List FlitD) (f i:Nat):List FlitD:=(l.drop f).take (i+1-f)
def wpk (l:List FlitD):Nat→List Int×Nat
 | 0=>([],0)
 | i+1=>if whole (part l (wpk l i).2 i) then ((wpk l i).1++[(l.getD (wpk l i).2 flit0).1],i+1) else wpk l i
def wholePk (l:List FlitD):List Int:=if (wpk l l.length).2<l.length then [] else (wpk l l.length).1
theorem Ds (l:List FlitD):∀i,(wpk l i).2≤i∧(wpk l i).1.length≤i
 | 0=>by simp [wpk]
 | i+1=>by
  have:=Ds l i
  simp only [wpk];split
  ·simp;omega
  ·omega
def trim (l:List FlitD):List FlitD:=(l.reverse.dropWhile fun f=>!f.2.2.2.2).reverse
theorem qh (l:List FlitD) (f:FlitD):trim (l++[f])=if f.2.2.2.2=true then l++[f] else trim l:=by
 unfold trim
 rw [List.reverse_append,List.reverse_singleton,List.singleton_append,List.dropWhile_cons]
 cases h:f.2.2.2.2<;>simp
def arrIds (arr:SSD) (node:Nat) (c:Int):List Int:=wholePk (trim ((arr.getD node []).filter fun f=>f.2.2.1=c))
def isFlow (a b c:Int) (p:PkD):Prop:=p.2.1=a∧p.2.2.1=b∧p.2.2.2.1=c
instance (a b c:Int) (p:PkD):Decidable (isFlow a b c p):=inferInstanceAs (Decidable (_∧_))
def sentP (list:List PkD) (id a b c:Int):Prop:=∃p∈list,p.1=id∧isFlow a b c p
instance (list:List PkD) (id a b c:Int):Decidable (sentP list id a b c):=inferInstanceAs (Decidable (∃p∈list,_))
def sentIds (list:List PkD) (a b c:Int):List Int:=(list.filter fun p=>isFlow a b c p).map (·.1)
def among (all:List Int) (list:List PkD) (a b c:Int):List Int:=all.filter fun id=>sentP list id a b c
def isPre (xs ys:List Int):Prop:=xs=ys.take xs.length
instance (xs ys:List Int):Decidable (isPre xs ys):=inferInstanceAs (Decidable (_=_))
def flowOk (arr:SSD) (list:List PkD) (fr to:Nat) (c:Int):Prop:=isPre (among (arrIds arr to c) list fr to c) (sentIds list fr to c)
instance (arr:SSD) (list:List PkD) (fr to:Nat) (c:Int):Decidable (flowOk arr list fr to c):=inferInstanceAs (Decidable (isPre _ _))
def keepsOk (x:NetD) (list:List PkD):Prop:=netOk x∧∀to,to<x.2.2.2.2.2.2.1.length→∀c:Nat,c<2→∀fr,fr<x.2.2.2.2.2.2.1.length→flowOk x.2.2.2.2.2.2.1 list fr to c
instance (x:NetD) (list:List PkD):Decidable (keepsOk x list):=inferInstanceAs (Decidable (_∧_))
end Go.Proofs.YtaldglgobgjeaaaGreat.V
set_option linter.all false
namespace Go.Proofs.YtaldglgobgjeaaaGreat.V
open Go Go.VM Go.Proofs
set_option maxRecDepth 10000
abbrev GrD:=Nat×Nat×Nat
def upd (s:SSD) (k:Nat) (f:List FlitD→List FlitD):SSD:=s.set k (f (s.getD k []))
@[simp] theorem Z8 (s:SSD) (k:Nat) (f:List FlitD→List FlitD):(upd s k f).length=s.length:=by simp [upd]
theorem Wn {s:SSD} {k:Nat} (f:List FlitD→List FlitD) (h:k<s.length):(upd s k f).getD k []=f (s.getD k []):=by
 simp [upd,List.getD_eq_getElem?_getD,h]
theorem Qy {s:SSD} {k j:Nat} (f:List FlitD→List FlitD) (h:k≠j):(upd s k f).getD j []=s.getD j []:=by
 simp [upd,List.getD_eq_getElem?_getD,List.getElem?_set_ne h]
theorem yd {s:SSD} {k j:Nat} (f g:List FlitD→List FlitD) (h:k≠j):upd (upd s k f) j g=upd (upd s j g) k f:=by
 have e1:=Qy (s:=s) f h
 have e2:=Qy (s:=s) g h.symm
 show (upd s k f).set j (g ((upd s k f).getD j []))=(upd s j g).set k (f ((upd s j g).getD k []))
 rw [e1,e2]
 exact List.set_comm _ _ h
theorem Cq (s:SSD) (k:Nat) (f g:List FlitD→List FlitD):upd (upd s k f) k g=upd s k (fun l=>g (f l)):=by
 by_cases h:k<s.length
 ·show (upd s k f).set k (g ((upd s k f).getD k []))=_
  rw [Wn f h]
  simp [upd]
 ·simp [upd,List.set_eq_of_length_le (Nat.le_of_not_lt h)]
theorem xi {s:SSD} {k j:Nat} (f:FlitD) (h:s.getD k []≠[]):upd (upd s j (·++[f])) k (List.drop 1)=upd (upd s k (List.drop 1)) j (·++[f]):=by
 by_cases e:j=k
 ·subst e
  rw [Cq,Cq]
  unfold upd
  congr 1
  cases hh:s.getD j [] with
  | nil=>exact absurd hh h
  | cons a l=>rfl
 ·exact yd _ _ e
def headL (l:List FlitD):FlitD:=l.headD (0,0,0,false,false)
def headOf (x:NetD) (j:Nat):FlitD:=headL (x.2.2.1.getD j [])
def frm (g:GrD):Nat:=10*g.1+g.2.2
def tgt (x:NetD) (a p c:Nat):Nat:=(10*next x.1.1 x.1.2.1 a p+2*opp p+c).toNat
def outAt (a p c:Nat):Nat:=10*a+2*p+c
def popS (s:SSD) (g:GrD):SSD:=upd s (frm g) (List.drop 1)
def pushS (x:NetD) (s:SSD) (g:GrD):SSD:=if g.2.1=4 then s else upd s (tgt x g.1 g.2.1 (g.2.2%2)) (·++[headOf x (frm g)])
def arrS (x:NetD) (s:SSD) (g:GrD):SSD:=if g.2.1=4 then upd s g.1 (·++[headOf x (frm g)]) else s
def ownS (x:NetD) (s:List Int) (g:GrD):List Int:=s.set (outAt g.1 g.2.1 (g.2.2%2)) (if (headOf x (frm g)).2.2.2.2 then -1 else ((g.2.2/2:Nat):Int))
def turnS (s:List Int) (g:GrD):List Int:=s.set (5*g.1+g.2.1) (((g.2.2+1)%10:Nat):Int)
def srcHead (x:NetD) (k:Nat):FlitD:=headL (x.2.2.2.2.2.1.getD k [])
def entAt (x:NetD) (k:Nat):Nat:=(10*(k:Int)+8+(srcHead x k).2.2.1).toNat
def entS (x:NetD) (s:SSD) (k:Nat):SSD:=upd s (entAt x k) (·++[srcHead x k])
def srcS (s:SSD) (k:Nat):SSD:=upd s k (List.drop 1)
def wantedN (x:NetD) (a i:Nat):Int:=
 if x.2.2.1.getD (10*a+i) []=[] then -1
 else if (headOf x (10*a+i)).2.2.2.1 then portOf x.1.1 x.1.2.1 (if i%2=1 then x.2.1.2 else x.2.1.1) a (headOf x (10*a+i)).2.1
 else match (List.range 5).find? fun p=>x.2.2.2.1.getD (outAt a p (i%2)) 0=((i/2:Nat):Int) with
  | some p=>(p:Int)
  | none=>-1
def roomN (x:NetD) (a p c:Nat):Prop:=p=4∨(has x.1.1 x.1.2.1 x.1.2.2 (4*a+p)∧(x.2.2.1.getD (tgt x a p c) []).length<3)
noncomputable instance (x:NetD) (a p c:Nat):Decidable (roomN x a p c):=inferInstanceAs (Decidable (_∨_))
def reqN (x:NetD) (a i p:Nat):Prop:=wantedN x a i=(p:Int)∧roomN x a p (i%2)∧
 x.2.2.2.1.getD (outAt a p (i%2)) 0=if (headOf x (10*a+i)).2.2.2.1 then -1 else ((i/2:Nat):Int)
noncomputable instance (x:NetD) (a i p:Nat):Decidable (reqN x a i p):=inferInstanceAs (Decidable (_∧_))
noncomputable def reqsN (x:NetD) (a p:Nat):List Nat:=(List.range 10).filter fun i=>reqN x a i p
def firstF (t:Int) (l:List Int):Int:=l.foldl (fun b y=>if b<0∨(y-t+10)%10<(b-t+10)%10 then y else b) (-1)
noncomputable def freeN (x:NetD) (a p:Nat) (u:List Bool):List Nat:=(reqsN x a p).filter fun i=>!u.getD (i/2) false
noncomputable def pickN (x:NetD) (a p:Nat) (u:List Bool):Int:=firstF (x.2.2.2.2.1.getD (5*a+p) 0) ((freeN x a p u).map Int.ofNat)
noncomputable def grStep (x:NetD) (a:Nat) (st:List GrD×List Bool) (p:Nat):List GrD×List Bool:=
 if 0≤pickN x a p st.2 then (st.1++[(a,p,(pickN x a p st.2).toNat)],st.2.set ((pickN x a p st.2).toNat/2) true) else st
noncomputable def grTo (x:NetD) (a p:Nat):List GrD×List Bool:=(List.range p).foldl (grStep x a) ([],List.replicate 5 false)
noncomputable def grN (x:NetD) (a:Nat):List GrD:=(grTo x a 5).1
noncomputable def allTo (x:NetD) (n:Nat):List GrD:=(List.range n).flatMap (grN x)
noncomputable def allN (x:NetD):List GrD:=allTo x (cnt x.1.1 x.1.2.1).toNat
def entersN (x:NetD) (k:Nat):Prop:=x.2.2.2.2.2.1.getD k []≠[]∧(x.2.2.1.getD (entAt x k) []).length<3
noncomputable instance (x:NetD) (k:Nat):Decidable (entersN x k):=inferInstanceAs (Decidable (_∧_))
noncomputable def enterN (x:NetD):List Nat:=(List.range (cnt x.1.1 x.1.2.1).toNat).filter fun k=>entersN x k
noncomputable def stepN (x:NetD):NetD:=
 (x.1,x.2.1,(enterN x).foldl (entS x) ((allN x).foldl (pushS x) ((allN x).foldl popS x.2.2.1)),(allN x).foldl (ownS x) x.2.2.2.1,(allN x).foldl turnS x.2.2.2.2.1,
  (enterN x).foldl srcS x.2.2.2.2.2.1,(allN x).foldl (arrS x) x.2.2.2.2.2.2.1,x.2.2.2.2.2.2.2+1)
def bothS (x:NetD) (s:SSD) (g:GrD):SSD:=pushS x (popS s g) g
@[simp] theorem Ju (s:SSD) (g:GrD):(popS s g).length=s.length:=Z8 _ _ _
@[simp] theorem Sm (x:NetD) (s:SSD) (g:GrD):(pushS x s g).length=s.length:=by unfold pushS;split<;>simp
@[simp] theorem Jz (x:NetD) (s:SSD) (g:GrD):(arrS x s g).length=s.length:=by unfold arrS;split<;>simp
@[simp] theorem J8 (x:NetD) (s:List Int) (g:GrD):(ownS x s g).length=s.length:=by unfold ownS;simp
@[simp] theorem Mn (s:List Int) (g:GrD):(turnS s g).length=s.length:=by unfold turnS;simp
@[simp] theorem Jl (x:NetD) (s:SSD) (k:Nat):(entS x s k).length=s.length:=Z8 _ _ _
@[simp] theorem Jx (s:SSD) (k:Nat):(srcS s k).length=s.length:=Z8 _ _ _
theorem Wm {α β:Type} {f:List β→α→List β} (h:∀s a,(f s a).length=s.length):∀(l:List α) (s:List β),(l.foldl f s).length=s.length
 | [],s=>rfl
 | a::l,s=>by rw [List.foldl_cons,Wm h l,h]
theorem Yf {α β:Type} (f:β→α→β) (s:β) {l:List α} {i:Nat} (h:i<l.length):(l.take (i+1)).foldl f s=f ((l.take i).foldl f s) l[i]:=by
 rw [List.take_succ_eq_append_getElem h,List.foldl_append];rfl
theorem xk {x:NetD} {s:SSD} {g g':GrD} (h:s.getD (frm g') []≠[]):popS (pushS x s g) g'=pushS x (popS s g') g:=by
 unfold popS pushS
 by_cases e:g.2.1=4
 ·rw [if_pos e,if_pos e]
 ·rw [if_neg e,if_neg e];exact xi _ h
theorem L3 (x:NetD):∀(l:List GrD) (s:SSD),(l.map frm).Nodup→(∀g∈l,s.getD (frm g) []≠[])→l.foldl (bothS x) s=l.foldl (pushS x) (l.foldl popS s)
 | [],s,_,_=>rfl
 | g::l,s,nd,hs=>by
  obtain ⟨n1,n2⟩:=List.nodup_cons.1 nd
  have hne:∀g'∈l,frm g≠frm g':=fun g' hg e=>n1 (e▸List.mem_map_of_mem hg)
  have h1:∀g'∈l,(popS s g).getD (frm g') []≠[]:=fun g' hg=>by
   rw [popS,Qy _ (hne g' hg)];exact hs g' (List.mem_cons_of_mem _ hg)
  have h2:∀g'∈l,(bothS x s g).getD (frm g') []≠[]:=fun g' hg=>by
   have:=h1 g' hg
   unfold bothS pushS
   split
   ·exact this
   ·by_cases e:tgt x g.1 g.2.1 (g.2.2%2)=frm g'
    ·rw [e]
     by_cases hl:frm g'<(popS s g).length
     ·rw [Wn _ hl];simp
     ·simp [List.getD_eq_getElem?_getD,List.getElem?_eq_none (Nat.le_of_not_lt hl)] at this
    ·rw [Qy _ e];exact this
  rw [List.foldl_cons,L3 x l _ n2 h2]
  have key:∀(m:List GrD) (z:SSD),(m.map frm).Nodup→(∀g'∈m,z.getD (frm g') []≠[])→m.foldl popS (pushS x z g)=pushS x (m.foldl popS z) g:=by
   intro m
   induction m with
   | nil=>intro z _ _;rfl
   | cons g' m ih=>
    intro z nz hz
    obtain ⟨z1,z2⟩:=List.nodup_cons.1 nz
    rw [List.foldl_cons,List.foldl_cons,xk (hz g' (List.mem_cons_self ..))]
    refine ih _ z2 fun g2 hg2=>?_
    have hne2:frm g'≠frm g2:=fun e=>z1 (e▸List.mem_map_of_mem hg2)
    rw [popS,Qy _ hne2];exact hz g2 (List.mem_cons_of_mem _ hg2)
  show l.foldl (pushS x) (l.foldl popS (pushS x (popS s g) g))=_
  rw [key l (popS s g) n2 h1]
  rfl
theorem Va (t:Int):∀(l:List Int) (b:Int),(l.foldl (fun b y=>if b<0∨(y-t+10)%10<(b-t+10)%10 then y else b) b)=b∨(l.foldl (fun b y=>if b<0∨(y-t+10)%10<(b-t+10)%10 then y else b) b)∈l
 | [],b=>.inl rfl
 | y::l,b=>by
  rw [List.foldl_cons]
  rcases Va t l (if b<0∨(y-t+10)%10<(b-t+10)%10 then y else b) with h|h
  ·rw [h];split
   ·exact .inr (List.mem_cons_self ..)
   ·exact .inl rfl
  ·exact .inr (List.mem_cons_of_mem _ h)
theorem D2 {t:Int} {l:List Int} (h:0≤firstF t l):firstF t l∈l:=by
 rcases Va t l (-1) with g|g
 ·unfold firstF at h;rw [g] at h;omega
 ·exact g
theorem Gt {x:NetD} {a p:Nat} {u:List Bool} (h:0≤pickN x a p u):(pickN x a p u).toNat∈freeN x a p u:=by
 have:=D2 h
 obtain ⟨i,hi,he⟩:=List.mem_map.1 this
 have e:pickN x a p u=(i:Int):=he.symm
 rw [e];simpa using hi
theorem Pn {x:NetD} {a p i:Nat} {u:List Bool} (h:i∈freeN x a p u):i<10∧reqN x a i p∧u.getD (i/2) false=false:=by
 obtain ⟨h1,h2⟩:=List.mem_filter.1 h
 obtain ⟨h3,h4⟩:=List.mem_filter.1 h1
 exact ⟨List.mem_range.1 h3,by simpa using h4,by simpa using h2⟩
theorem Zb (x:NetD) (a p:Nat):grTo x a (p+1)=grStep x a (grTo x a p) p:=by
 unfold grTo;rw [List.range_succ,List.foldl_append];rfl
structure GrOk (x:NetD) (a p:Nat) (st:List GrD×List Bool):Prop where
 len:st.2.length=5
 at':∀g∈st.1,g.1=a∧g.2.1<p∧g.2.2<10∧reqN x a g.2.2 g.2.1∧st.2.getD (g.2.2/2) false=true
 nd:(st.1.map frm).Nodup
 le:st.1.length≤p
theorem jq {u:List Bool} {k j:Nat} (h:u.getD j false=true):(u.set k true).getD j false=true:=by
 simp only [List.getD_eq_getElem?_getD,List.getElem?_set] at *
 split
 ·split<;>simp_all
 ·exact h
theorem Vo (x:NetD) (a:Nat):∀p,p≤5→GrOk x a p (grTo x a p)
 | 0,_=>⟨rfl,fun g h=>by simp [grTo] at h,by simp [grTo],by simp [grTo]⟩
 | p+1,hp=>by
  obtain ⟨h1,h2,h3,h4⟩:=Vo x a p (by omega)
  rw [Zb]
  unfold grStep
  generalize grTo x a p=st at *
  split
  ·rename_i hk
   obtain ⟨k1,k2,k3⟩:=Pn (Gt hk)
   generalize hk':(pickN x a p st.2).toNat=k at *
   refine ⟨by simpa using h1,fun g hg=>?_,?_,by simp only [List.length_append,List.length_cons,List.length_nil];omega⟩
   ·rcases List.mem_append.1 hg with hg|hg
    ·obtain ⟨g1,g2,g3,g4,g5⟩:=h2 g hg
     exact ⟨g1,by omega,g3,g4,jq g5⟩
    ·have:=List.mem_singleton.1 hg
     subst this
     exact ⟨rfl,by simp,k1,k2,by show (st.2.set (k/2) true).getD (k/2) false=true;rw [List.getD_eq_getElem?_getD,List.getElem?_set_self (by rw [h1];omega)];rfl⟩
   ·rw [List.map_append]
    refine List.nodup_append.2 ⟨h3,by simp,fun y hy z hz e=>?_⟩
    obtain ⟨g,hg,rfl⟩:=List.mem_map.1 hy
    simp at hz
    obtain ⟨g1,g2,g3,g4,g5⟩:=h2 g hg
    have:g.2.2=k:=by have:frm g=frm (a,p,k):=e.trans hz;unfold frm at this;simp only at this;omega
    rw [this,k3] at g5
    simp at g5
  ·exact ⟨h1,fun g hg=>by obtain ⟨g1,g2,g3,g4,g5⟩:=h2 g hg;exact ⟨g1,by omega,g3,g4,g5⟩,h3,by omega⟩
theorem Vy (x:NetD) (n:Nat):allTo x (n+1)=allTo x n++grN x n:=by
 unfold allTo;rw [List.range_succ,List.flatMap_append];simp
theorem nf (x:NetD) (a:Nat):(grN x a).length≤5:=(Vo x a 5 (by omega)).le
theorem Zn (x:NetD):∀n,(∀g∈allTo x n,g.1<n∧g.2.1<5∧g.2.2<10∧reqN x g.1 g.2.2 g.2.1)∧((allTo x n).map frm).Nodup∧(allTo x n).length≤5*n
 | 0=>⟨fun g h=>by simp [allTo] at h,by simp [allTo],by simp [allTo]⟩
 | n+1=>by
  obtain ⟨h1,h2,h3⟩:=Zn x n
  obtain ⟨_,k2,k3,k4⟩:=Vo x n 5 (by omega)
  rw [Vy]
  refine ⟨fun g hg=>?_,?_,by simp [grN];omega⟩
  ·rcases List.mem_append.1 hg with hg|hg
   ·obtain ⟨a1,a2⟩:=h1 g hg;exact ⟨by omega,a2⟩
   ·obtain ⟨a1,a2,a3,a4,_⟩:=k2 g hg
    exact ⟨by omega,a2,a3,by rw [a1];exact a4⟩
  ·rw [List.map_append]
   refine List.nodup_append.2 ⟨h2,k3,fun y hy z hz e=>?_⟩
   obtain ⟨g,hg,rfl⟩:=List.mem_map.1 hy
   obtain ⟨g',hg',rfl⟩:=List.mem_map.1 hz
   have a1:=h1 g hg
   have a2:=k2 g' hg'
   unfold frm at e;omega
theorem Yl {x:NetD} {g:GrD} (h:g∈allN x):(g.1:Int)<cnt x.1.1 x.1.2.1∧g.2.1<5∧g.2.2<10∧reqN x g.1 g.2.2 g.2.1:=by
 obtain ⟨h1,h2⟩:=(Zn x _).1 g h
 exact ⟨by omega,h2⟩
theorem Zu (x:NetD):((allN x).map frm).Nodup:=(Zn x _).2.1
theorem Gx (x:NetD):(allN x).length≤80:=by
 have:=(Zn x (cnt x.1.1 x.1.2.1).toNat).2.2
 have:=Qe x.1.1 x.1.2.1
 unfold allN;omega
theorem Td {x:NetD} {a i p:Nat} (h:reqN x a i p):x.2.2.1.getD (10*a+i) []≠[]:=fun e=>by
 have:=h.1
 unfold wantedN at this
 rw [if_pos e] at this
 omega
theorem S4 {l:List FlitD} (h:l≠[]):headL l∈l:=by
 cases l with
 | nil=>exact absurd rfl h
 | cons a l=>exact List.mem_cons_self ..
def allP (P:Nat→FlitD→Prop) (s:SSD):Prop:=∀j,∀f∈s.getD j [],P j f
def runOk (x:NetD):Prop:=classesOk x.1.1 x.1.2.1 x.1.2.2 x.2.1.1 x.2.1.2∧sizesOk x∧allP (fun j f=>f.2.2.1=(j:Int)%2∧flitOk x.1.1 x.1.2.1 f) x.2.2.1∧allP (fun _ f=>flitOk x.1.1 x.1.2.1 f) x.2.2.2.2.2.1∧∀o∈x.2.2.2.2.1,inR 0 o 9
theorem M8 {P:Nat→FlitD→Prop} {s:SSD} {k:Nat} (h:allP P s):allP P (upd s k (List.drop 1)):=fun j f hf=>by
 by_cases e:k=j
 ·subst e
  by_cases hl:k<s.length
  ·rw [Wn _ hl] at hf;exact h k f (List.mem_of_mem_drop hf)
  ·simp [upd,List.getD_eq_getElem?_getD,List.getElem?_eq_none (Nat.le_of_not_lt hl),List.set_eq_of_length_le (Nat.le_of_not_lt hl)] at hf
 ·rw [Qy _ e] at hf;exact h j f hf
theorem M1 {P:Nat→FlitD→Prop} {s:SSD} {k:Nat} {y:FlitD} (h:allP P s) (hy:P k y):allP P (upd s k (·++[y])):=fun j f hf=>by
 by_cases e:k=j
 ·subst e
  by_cases hl:k<s.length
  ·rw [Wn _ hl] at hf
   rcases List.mem_append.1 hf with hf|hf
   ·exact h k f hf
   ·rw [List.mem_singleton.1 hf];exact hy
  ·simp [upd,List.getD_eq_getElem?_getD,List.getElem?_eq_none (Nat.le_of_not_lt hl),List.set_eq_of_length_le (Nat.le_of_not_lt hl)] at hf
 ·rw [Qy _ e] at hf;exact h j f hf
theorem Xq {α β:Type} {f:β→α→β} (I:β→Prop):∀(l:List α) (s:β),I s→(∀s a,a∈l→I s→I (f s a))→I (l.foldl f s)
 | [],s,h,_=>h
 | a::l,s,h,k=>Xq I l _ (k s a (List.mem_cons_self ..) h) fun s b hb=>k s b (List.mem_cons_of_mem _ hb)
theorem Sq {x:NetD} {a p c:Nat} (h:has x.1.1 x.1.2.1 x.1.2.2 (4*(a:Int)+p)) (hp:p<4) :
 isN x.1.1 x.1.2.1 (next x.1.1 x.1.2.1 a p)∧0≤opp p∧opp p<4:=by
 obtain ⟨_,_,h3⟩:=Xl (w:=x.1.1) (h:=x.1.2.1) (a:=a) (p:=p) (b:=x.1.2.2) ⟨by omega,by omega⟩ h
 refine ⟨h3,?_⟩
 unfold opp
 rw [if_neg (by omega),if_pos (by omega)]
 omega
theorem Ym {x:NetD} {a p c:Nat} (h:has x.1.1 x.1.2.1 x.1.2.2 (4*(a:Int)+p)) (hp:p<4) (hc:c<2) :
 ((tgt x a p c:Nat):Int)=10*next x.1.1 x.1.2.1 a p+2*opp p+c∧((tgt x a p c:Nat):Int)<10*cnt x.1.1 x.1.2.1∧((tgt x a p c:Nat):Int)%2=c:=by
 obtain ⟨⟨h1,h2⟩,h3,h4⟩:=Sq (c:=c) h hp
 unfold tgt
 generalize next x.1.1 x.1.2.1 a p=N at *
 generalize opp p=O at *
 refine ⟨by omega,by omega,by omega⟩
theorem gn {x:NetD} (h:runOk x) {a i p:Nat} (r:reqN x a i p):(headOf x (10*a+i)).2.2.1=((10*a+i:Nat):Int)%2∧flitOk x.1.1 x.1.2.1 (headOf x (10*a+i)):=
 h.2.2.1 _ _ (S4 (Td r))
theorem Sx {x:NetD} (h:runOk x) {k:Nat} (r:x.2.2.2.2.2.1.getD k []≠[]):flitOk x.1.1 x.1.2.1 (srcHead x k)∧(entAt x k:Int)=10*k+8+(srcHead x k).2.2.1∧(entAt x k:Int)%2=(srcHead x k).2.2.1:=by
 have:=h.2.2.2.1 k _ (S4 r)
 have h2:=this.2
 unfold inR at h2
 refine ⟨this,?_⟩
 unfold entAt srcHead
 omega
theorem Xe {x:NetD} {k:Nat} (h:k∈enterN x):(k:Int)<cnt x.1.1 x.1.2.1∧entersN x k:=by
 obtain ⟨h1,h2⟩:=List.mem_filter.1 h
 have:=List.mem_range.1 h1
 exact ⟨by omega,by simpa using h2⟩
theorem Vi (x:NetD):(enterN x).Nodup:=List.Pairwise.filter _ List.nodup_range
theorem Pa (x:NetD):(enterN x).length≤16:=by
 have h1:=List.length_filter_le (fun k=>decide (entersN x k)) (List.range (cnt x.1.1 x.1.2.1).toNat)
 have:=Qe x.1.1 x.1.2.1
 rw [List.length_range] at h1
 unfold enterN;omega
theorem Of {x:NetD} (h:runOk x):runOk (stepN x):=by
 have hx:=h
 obtain ⟨h1,⟨s1,s2,s3,s4,s5⟩,h3,h4,h5⟩:=h
 refine ⟨h1,⟨?_,?_,?_,?_,?_⟩,?_,?_,?_⟩
 ·show (((enterN x).foldl (entS x) ((allN x).foldl (pushS x) ((allN x).foldl popS x.2.2.1))).length:Int)=_
  rw [Wm (Jl x),Wm (Sm x),Wm Ju];exact s1
 ·show (((allN x).foldl (ownS x) x.2.2.2.1).length:Int)=_
  rw [Wm (J8 x)];exact s2
 ·show (((allN x).foldl turnS x.2.2.2.2.1).length:Int)=_
  rw [Wm Mn];exact s3
 ·show (((enterN x).foldl srcS x.2.2.2.2.2.1).length:Int)=_
  rw [Wm Jx];exact s4
 ·show (((allN x).foldl (arrS x) x.2.2.2.2.2.2.1).length:Int)=_
  rw [Wm (Jz x)];exact s5
 ·refine Xq _ _ _ (Xq _ _ _ (Xq _ _ _ h3 fun s g hg hs=>M8 hs) fun s g hg hs=>?_) fun s k hk hs=>?_
  ·unfold pushS
   split
   ·exact hs
   ·rename_i hp
    obtain ⟨a1,a2,a3,a4⟩:=Yl hg
    have hh:=a4.2.1
    rcases hh with hh|⟨hh,_⟩
    ·exact absurd hh hp
    obtain ⟨t1,t2,t3⟩:=Ym (c:=g.2.2%2) hh (by omega) (by omega)
    obtain ⟨e1,e2⟩:=gn hx a4
    refine M1 hs ⟨?_,e2⟩
    show (headOf x (10*g.1+g.2.2)).2.2.1=_
    rw [e1,t3];omega
  ·obtain ⟨_,e1,_⟩:=Xe hk
   obtain ⟨f1,f2,f3⟩:=Sx hx e1
   exact M1 hs ⟨f3.symm,f1⟩
 ·exact Xq _ _ _ h4 fun s k hk hs=>M8 hs
 ·refine Xq (fun s:List Int=>∀o∈s,inR 0 o 9) _ _ h5 fun s g hg hs o ho=>?_
  rcases List.mem_or_eq_of_mem_set ho with ho|rfl
  ·exact hs o ho
  ·unfold inR;omega
def allL (L:Nat) (s:SSD):Prop:=∀l∈s,l.length≤L
theorem Cg {s:SSD} {k:Nat} {f:List FlitD→List FlitD} {l:List FlitD} (h:l∈upd s k f):l∈s∨(l=f (s.getD k [])∧k<s.length):=by
 unfold upd at h
 by_cases hl:k<s.length
 ·rcases List.mem_or_eq_of_mem_set h with h|h
  ·exact .inl h
  ·exact .inr ⟨h,hl⟩
 ·rw [List.set_eq_of_length_le (Nat.le_of_not_lt hl)] at h;exact .inl h
theorem Uk {s:SSD} {k:Nat} (hl:k<s.length):s.getD k []∈s:=by
 simp [List.getD_eq_getElem?_getD,hl]
theorem Md {L:Nat} {s:SSD} {k:Nat} (h:allL L s):allL L (upd s k (List.drop 1)):=fun l hl=>by
 rcases Cg hl with hl|⟨rfl,hk⟩
 ·exact h l hl
 ·have:=h _ (Uk hk);rw [List.length_drop];omega
theorem Sp {L:Nat} {s:SSD} {k:Nat} {y:FlitD} (h:allL L s):allL (L+1) (upd s k (·++[y])):=fun l hl=>by
 rcases Cg hl with hl|⟨rfl,hk⟩
 ·have:=h l hl;omega
 ·have:=h _ (Uk hk);simp only [List.length_append,List.length_cons,List.length_nil];omega
theorem Ws {L M:Nat} {s:SSD} (h:allL L s) (k:L≤M):allL M s:=fun l hl=>by have:=h l hl;omega
theorem Xn {α:Type} {f:SSD→α→SSD} (hf:∀s a L,allL L s→allL (L+1) (f s a)):∀(l:List α) (s:SSD) (L:Nat),allL L s→allL (L+l.length) (l.foldl f s)
 | [],s,L,h=>by simpa using h
 | a::l,s,L,h=>by
  have:=Xn hf l (f s a) (L+1) (hf s a L h)
  rw [List.foldl_cons,List.length_cons]
  exact Ws this (by omega)
theorem Mu {L:Nat} (l:List GrD) (s:SSD) (h:allL L s):allL L (l.foldl popS s):=Xq _ _ _ h fun s g hg hs=>Md hs
theorem An {L:Nat} (l:List Nat) (s:SSD) (h:allL L s):allL L (l.foldl srcS s):=Xq _ _ _ h fun s g hg hs=>Md hs
theorem Si (x:NetD) (s:SSD) (g:GrD) (L:Nat) (h:allL L s):allL (L+1) (pushS x s g):=by
 unfold pushS;split
 ·exact Ws h (by omega)
 ·exact Sp h
theorem Gr (x:NetD) (s:SSD) (g:GrD) (L:Nat) (h:allL L s):allL (L+1) (arrS x s g):=by
 unfold arrS;split
 ·exact Sp h
 ·exact Ws h (by omega)
theorem Fb (x:NetD) (s:SSD) (k:Nat) (L:Nat) (h:allL L s):allL (L+1) (entS x s k):=Sp h
theorem Bm {x:NetD} {L:Nat} (h1:allL L x.2.2.1) (h2:allL L x.2.2.2.2.2.2.1):allL (L+96) (stepN x).2.2.1∧allL (L+96) (stepN x).2.2.2.2.2.2.1:=by
 have a1:=Gx x
 have a2:=Pa x
 refine ⟨?_,?_⟩
 ·exact Ws (Xn (Fb x) (enterN x) _ _ (Xn (Si x) (allN x) _ _ (Mu (allN x) _ h1))) (by omega)
 ·exact Ws (Xn (Gr x) (allN x) _ _ h2) (by omega)
end Go.Proofs.YtaldglgobgjeaaaGreat.V
set_option linter.all false
namespace Go.Proofs.YtaldglgobgjeaaaGreat.V
open Go Go.VM Go.Proofs
set_option maxRecDepth 10000
variable {frz:Nat} {H:Heap}
theorem So (ys:List Int):ones (cellsOf Fl.int ys)=true:=by
 rw [Q8];unfold ones
 rw [List.all_eq_true]
 intro x hx
 obtain ⟨y,_,rfl⟩:=List.mem_map.1 hx
 rfl
theorem Zw (w h:Int) (v:Value) (b:List Int) (hI:IsI H v b) (hl:b.length≤1073741824):wp (vcall C frz 29 [.agg #[.int .i64 w,.int .i64 h,v]] H) (dMesh.Made H (w,h,b)):=by
 rw [Qa (fn:=Tryz.f29) Tryz.func29 rfl (by kernel_rfl) rfl]
 have one:=And.intro hI.one' hI.cells
 simp [one]
 rw [Na (h:=⟨by kernel_rfl,by kernel_rfl⟩)]
 simp [emps,empOp,empB,one,(hI.app _).src]
 by_cases h0:b=[]
 ·subst h0
  simp
  exact ⟨_,rfl,⟨.inl ⟨rfl,rfl⟩,by simp⟩,Chg.app _,by simp [dMesh],by simp [dMesh]⟩
 ·simp [h0,hl]
  exact ⟨_,rfl,⟨Ow.new (D:=Fl.int) (e:=3) (xs:=b) (k:=2) (by simp) (Q8 _).symm (by simp) rfl,hl⟩,Chg.app _,by simp [dMesh],Wk (.slice (some ⟨H.length+2,0,some 0⟩) b.length 0)⟩
theorem U3 (v:Value) (xs:List Int) (hI:IsI H v xs) (hl:xs.length≤1073741824):wp (vcall C frz 60 [.agg #[v]] H) (dTable.Made H xs):=by
 rw [Qa (fn:=Tryz.f60) Tryz.func60 rfl (by kernel_rfl) rfl]
 have one:=And.intro hI.one' hI.cells
 simp [one,(hI.app _).src]
 by_cases h0:xs=[]
 ·subst h0
  simp
  exact ⟨_,rfl,⟨Ow.new (D:=Fl.int) (e:=3) (xs:=[]) (k:=2) (by simp) rfl rfl rfl,by simp⟩,Chg.app _,by simp [dTable],Wk (.slice (some ⟨H.length+2,0,some 0⟩) 0 0)⟩
 ·simp [h0,hl]
  exact ⟨_,rfl,⟨Ow.new (D:=Fl.int) (e:=3) (xs:=xs) (k:=2) (by simp) (Q8 _).symm (by simp) rfl,hl⟩,Chg.app _,by simp [dTable],Wk (.slice (some ⟨H.length+2,0,some 1⟩) xs.length 0)⟩
theorem T5:∀(hs:List Value),(hs.flatMap ids).Nodup→∀{i j:Nat} {a b:Value},i≠j→hs[i]? = some a→hs[j]? = some b→∀x∈ids a,x∉ids b
 | [],_,i,j,a,b,_,h1,_=>by simp at h1
 | c::hs,nd,i,j,a,b,hij,h1,h2=>by
  rw [List.flatMap_cons] at nd
  obtain ⟨n1,n2,n3⟩:=List.nodup_append.1 nd
  intro x hx hx'
  cases i with
  | zero=>
   cases j with
   | zero=>exact absurd rfl hij
   | succ j=>
    simp at h1 h2
    subst h1
    exact n3 x hx x (List.mem_flatMap.2 ⟨b,List.mem_of_getElem? h2,hx'⟩) rfl
  | succ i=>
   cases j with
   | zero=>
    simp at h1 h2
    subst h2
    exact n3 x hx' x (List.mem_flatMap.2 ⟨a,List.mem_of_getElem? h1,hx⟩) rfl
   | succ j=>exact T5 hs n2 (i:=i) (j:=j) (fun e=>hij (by omega)) (by simpa using h1) (by simpa using h2) x hx hx'
def ahead (a:SSD) (i:Nat):Nat:=((a.take i).map List.length).sum
theorem Ob (a:SSD) {i:Nat} (h:i<a.length):ahead a (i+1)=ahead a i+(a.getD i []).length:=by
 unfold ahead;rw [jp a h,List.getD_eq_getElem?_getD,List.getElem?_eq_getElem h];rfl
theorem Ia (a:SSD) (h2:∀xs∈a,xs.length≤67108864):∀i,i≤a.length→ahead a i≤67108864*i
 | 0,_=>by simp [ahead]
 | i+1,h=>by
  have:=Ia a h2 i (by omega)
  have hm:=h2 _ (List.getElem_mem (show i<a.length by omega))
  rw [Ob a (by omega),List.getD_eq_getElem?_getD,List.getElem?_eq_getElem (by omega)]
  simp;omega
theorem Ms (v:Value) (xs:List Int) (hI:Rd Fl.int H v xs) (hl:xs.length≤1073741824):∃r L,vappend Tryz.prog frz H 26 26 (.slice none 0 0) v=some (r,H++L)∧dIntS.Ow (H++L) r xs∧(∀i∈ids r,H.length≤i):=by
 have hs:=hI.src
 simp only [Fl.int_n] at hs
 by_cases h0:xs=[]
 ·subst h0
  refine ⟨.slice none 0 0,[],?_,⟨.inl ⟨rfl,rfl⟩,by simp⟩,by simp⟩
  simp [hs]
 ·refine ⟨.slice (some ⟨H.length,0,some 0⟩) xs.length 0,[⟨cellsOf Fl.int xs,0,3⟩],?_,⟨Ow.new0 rfl rfl (So xs) rfl,hl⟩,by simp⟩
  have:xs.length≠0:=fun hh=>h0 (List.length_eq_zero_iff.1 hh)
  simp [hs,h0,hl,So]
theorem Um (v:Value) (hs:List Value) (xss:SSD) (hI:RdL flF H v hs xss) (hb:xss.length≤2097152) (hb2:∀xs∈xss,xs.length≤67108864) :
 wp (vcall C frz 61 [v] H) (dSS.Made H xss):=by
 rw [Qa (fn:=Tryz.f61) Tryz.func61 rfl (by kernel_rfl) rfl]
 have hl:=hI.2.1
 simp [(hI.app).1.len (P:=Tryz.prog) (ty:=36) (by simp),hl]
 refine Qg (fun n t H'=>∃(i:Nat) (out:Value) (gs:List Value),n=xss.length-i∧i≤xss.length∧t 7=v∧t 8=.int .i64 xss.length∧t 9=.int .i64 i∧t 3=out∧gs.length=i∧Ow Fl.val 109 H' out gs∧Chg H H' []∧
  (∀(j:Nat) (a:Value) (xs:List FlitD),gs[j]? = some a→xss[j]? = some xs→Ow flF 144 H' a xs)∧(∀x∈idsL out gs,H.length≤x∧x<H'.length)∧(idsL out gs).Nodup) ?_ (n:=xss.length)
  ⟨0,.slice (some ⟨H.length,0,some 0⟩) 0 0,[],rfl,by omega,by simp,by simp,by simp,by simp,rfl,Ow.new0 (D:=Fl.val) (xs:=[]) rfl rfl rfl rfl,Chg.app _,by simp,by simp [idsL],by simp [idsL]⟩
 rintro n t H' ⟨i,out,gs,rfl,hi,t7,t8,t9,t3,hgl,o,c,hin,hids,hnd⟩ ih
 have rd:=hI.chg c (by simp)
 have l0:=c.1
 simp [t7,t8,t9,t3,rd.1.len (P:=Tryz.prog) (ty:=36) (by simp),hl]
 refine Qc ?_ ?_<;>intro h
 ·have h':i<xss.length:=by omega
  obtain ⟨u,a1,a2,a3,a4⟩:=Xi rd (ty:=36) (e:=109) (by simp) (by simp) h'
  have hm:=hb2 _ (List.getElem_mem h')
  have a2':vindexAddr Tryz.prog (H'++[⟨[],0,144⟩]) 36 v (.int .i64 i)=some (elp v i):=by
   obtain ⟨_,_,q,_,_⟩:=Xi (rd.app (L:=[⟨[],0,144⟩])) (ty:=36) (e:=109) (by simp) (by simp) h';exact q
  have a3':vload Tryz.prog (H'++[⟨[],0,144⟩]) 109 (elp v i)=some u:=by
   obtain ⟨u',q1,_,q,_⟩:=Xi (rd.app (L:=[⟨[],0,144⟩])) (ty:=36) (e:=109) (by simp) (by simp) h'
   rw [a1] at q1;cases q1;exact q
  have o0:Ow flF 144 (H'++[⟨[],0,144⟩]) (.slice (some ⟨H'.length,0,some 0⟩) 0 0) []:=Ow.new0 (D:=flF) (xs:=[]) rfl rfl rfl rfl
  obtain ⟨r,H2,hap,or_,c1,n1⟩:=o0.append (P:=Tryz.prog) (frz:=H.length) (ty:=109) (a4.app (L:=[⟨[],0,144⟩])) (by simp) (T4 _) (by simp;omega) (by simp;omega)
  rw [List.nil_append] at or_
  have l1:=c1.1
  simp at l1
  have cc1:Chg H' H2 []:=(Chg.app []).trans' c1 (fun x hx=>.inr (by simp at hx;omega))
  have nr:∀x∈ids r,H'.length≤x:=fun x hx=>by
   rcases n1 x hx with h1|h1
   ·simp at h1;omega
   ·simp at h1;omega
  have oo:=o.chg cc1 (by simp)
  have hout:∀x∈ids out,H.length≤x∧x<H'.length:=fun x hx=>hids x (List.mem_append.2 (.inl hx))
  obtain ⟨out',H4,hap2,o4,c4,n4⟩:=oo.push (P:=Tryz.prog) (frz:=H.length) (ty:=36) (a:=r) (by simp) (by simp [or_.rd.one']) (by omega) (fun x hx=>(hout x hx).1)
  simp only [Fl.val_f] at hap2
  have l4:=c4.1
  have one:=And.intro or_.rd.one' or_.rd.cells
  have rlt:=or_.lt
  have o4lt:=o4.lt
  simp [-Q6,t7,t8,t9,t3,a2,a3,a2',a3',hap,hap2,one]
  refine ih (xss.length-(i+1)) _ _ ⟨i+1,out',gs++[r],rfl,by omega,by simp [t7],by simp [t8],?_,by simp,by simp [hgl],o4,(c.trans cc1).trans' c4 (fun x hx=>.inr (hout x hx).1),fun j a xs ha hx=>?_,fun x hx=>?_,?_⟩ (by omega)
  ·simp;rw [w64 (by omega) (by omega)]
  ·by_cases hj:j<gs.length
   ·rw [List.getElem?_append_left hj] at ha
    refine ((hin j a xs ha hx).chg cc1 (by simp)).chg c4 (fun y hy hh=>?_)
    exact (List.nodup_append.1 hnd).2.2 y hh y (List.mem_flatMap.2 ⟨a,List.mem_of_getElem? ha,hy⟩) rfl
   ·rw [List.getElem?_append_right (by omega)] at ha
    have hj2:=(List.getElem?_eq_some_iff.1 ha).1
    simp at hj2
    have:j=i:=by omega
    subst this
    rw [show j-gs.length=0 by omega] at ha
    simp at ha
    subst ha
    rw [List.getElem?_eq_getElem h'] at hx
    cases hx
    exact or_.chg c4 (fun y hy hh=>by have:=nr y hy;have:=(hout y hh).2;omega)
  ·rcases List.mem_append.1 hx with hx|hx
   ·have h2:=o4lt x hx
    rcases n4 x hx with h1|h1
    ·exact ⟨(hout x h1).1,h2⟩
    ·exact ⟨by omega,h2⟩
   ·rw [List.flatMap_append] at hx
    rcases List.mem_append.1 hx with hx|hx
    ·have:=hids x (List.mem_append.2 (.inr hx));omega
    ·simp at hx
     have:=nr x hx;have:=rlt x hx;omega
  ·obtain ⟨d1,d2,d3⟩:=List.nodup_append.1 hnd
   have hgl2:∀x∈gs.flatMap ids,x<H'.length:=fun x hx=>(hids x (List.mem_append.2 (.inr hx))).2
   refine List.nodup_append.2 ⟨Wk _,?_,fun a ha b hb e=>?_⟩
   ·rw [List.flatMap_append]
    exact Z5 d2 (by simpa using Wk r) (n:=H'.length) hgl2 (fun x hx=>by simp at hx;exact nr x hx)
   ·subst e
    rw [List.flatMap_append] at hb
    rcases n4 a ha with h1|h1
    ·rcases List.mem_append.1 hb with hb|hb
     ·exact d3 a h1 a hb rfl
     ·simp at hb
      have:=nr a hb;have:=(hout a h1).2;omega
    ·rcases List.mem_append.1 hb with hb|hb
     ·have:=hgl2 a hb;omega
     ·simp at hb
      have:=rlt a hb;omega
 ·have:i=xss.length:=by omega
  subst this
  simp [t7,t8,t9,t3]
  exact ⟨(out,gs),rfl,⟨⟨o,hgl,hin⟩,hb,hb2⟩,c,fun x hx=>(hids x hx).1,hnd⟩
theorem Za (v1 v2:Value) (A B:List Int) (h1:IsI H v1 A) (h2:IsI H v2 B) (l1:A.length≤1073741824) (l2:B.length≤1073741824) :
 wp (vcall C frz 30 [.agg #[v1,v2]] H) (dClasses.Made H (A,B)):=by
 rw [Qa (fn:=Tryz.f30) Tryz.func30 rfl (by kernel_rfl) rfl]
 have one:=And.intro (And.intro h1.one' h1.cells) (And.intro h2.one' h2.cells)
 simp [one]
 try rw [Qf (h:=by kernel_rfl)]
 simp [one]
 refine Qd (U3 v1 A (h1.app _) l1) ?_
 rintro _ H1 ⟨u1,rfl,o1,c1,n1,d1⟩
 have b0:H1[H.length]? = some ⟨[v1,v2],0,32⟩:=Qb (by simp) c1 (by simp)
 have bR:H1[H.length+1]? = some ⟨[.slice none 0 0,.slice none 0 0],0,32⟩:=Qb (by simp) c1 (by simp)
 have cH1:Chg H H1 []:=(Chg.app []).trans c1
 have lc:=c1.1
 simp at n1 lc
 have onu:=X5 o1
 have lt1:=dTable.lt o1
 simp [X3,VM.look,b0,one]
 refine Qd (U3 v2 B (Rd.isI (h2.rd.chg cH1 (by simp))) l2) ?_
 rintro _ H2 ⟨u2,rfl,o2,c2,n2,d2⟩
 have bR:=Qb bR c2 (by simp)
 have o1:=Dt.chg0 (T:=dTable) o1 c2
 have onu2:=X5 o2
 have gR:=Qo (r':=⟨[u1,u2],0,32⟩) bR
 have hF:H.length≤H.length+1:=by omega
 have eR:Chg H2 (H2.set (H.length+1) ⟨[u1,u2],0,32⟩) [H.length+1]:=Qh _ _
 simp [X3,VM.look,bR,onu,onu2,gR,hF]
 refine ⟨(u1,u2),rfl,⟨Dt.chg (T:=dTable) o1 eR (fun i hi hh=>by have:=n1 i hi;simp at hh;omega),Dt.chg (T:=dTable) o2 eR (fun i hi hh=>by have:=n2 i hi;simp at hh;omega)⟩,(cH1.trans c2).trans' eR (fun i hi=>.inr (by simp at hi;omega)),fun i hi=>?_,?_⟩
 ·rcases List.mem_append.1 hi with hi|hi
  ·have:=n1 i hi;omega
  ·have:=n2 i hi;omega
 ·exact List.nodup_append.2 ⟨d1,d2,fun a ha b hb e=>by have:=lt1 a ha;have:=n2 b hb;omega⟩
theorem Vr {v:NetV} {x:NetD} (o:dNet.Ow H v x):wp (vcall C frz 31 [dNet.val v x] H) (dNet.Made H x):=by
 have ones:=Qk o
 obtain ⟨u2,⟨u3,u4⟩,⟨u5,h5⟩,u6,u7,⟨u8,h8⟩,⟨u9,h9⟩,_⟩:=v
 obtain ⟨⟨w,h,b⟩,⟨A,B⟩,buf,own,turn,src,arr,tm⟩:=x
 obtain ⟨y1,y2,y3,y4,y5,y6,y7,_⟩:=o
 simp only at y1 y2 y3 y4 y5 y6 y7 ones
 rw [Ql]
 rw [Qa (fn:=Tryz.f31) Tryz.func31 rfl (by kernel_rfl) rfl]
 have hF:H.length≤H.length+1:=by omega
 simp [ones]
 rw [Na (h:=⟨by kernel_rfl,by kernel_rfl⟩)]
 obtain ⟨G0,hG0⟩:∃G,G=H++[⟨[.int .i64 w,.int .i64 h,u2,u3,u4,u5,u6,u7,u8,u9,.int .i64 tm],0,38⟩,⟨[.int .i64 0,.int .i64 0,.slice none 0 0,.slice none 0 0,.slice none 0 0,.slice none 0 0,.slice none 0 0,.slice none 0 0,.slice none 0 0,.slice none 0 0,.int .i64 0],0,38⟩]:=⟨_,rfl⟩
 have b0:G0[H.length]? = some ⟨[.int .i64 w,.int .i64 h,u2,u3,u4,u5,u6,u7,u8,u9,.int .i64 tm],0,38⟩:=by rw [hG0];simp
 have bR:G0[H.length+1]? = some ⟨[.int .i64 0,.int .i64 0,.slice none 0 0,.slice none 0 0,.slice none 0 0,.slice none 0 0,.slice none 0 0,.slice none 0 0,.slice none 0 0,.slice none 0 0,.int .i64 0],0,38⟩:=by rw [hG0];simp
 have cH:Chg H G0 []:=by rw [hG0];exact Chg.app []
 have lH:H.length+2≤G0.length:=by rw [hG0];simp
 rw [← hG0]
 clear hG0
 have z1:dMesh.Ow G0 u2 (w,h,b):=Dt.chg0 y1 cH
 have z2:dClasses.Ow G0 (u3,u4) (A,B):=Dt.chg0 y2 cH
 have z3:dSS.Ow G0 (u5,h5) buf:=Dt.chg0 y3 cH
 have z4:dIntS.Ow G0 u6 own:=Dt.chg0 y4 cH
 have z5:dIntS.Ow G0 u7 turn:=Dt.chg0 y5 cH
 have z6:dSS.Ow G0 (u8,h8) src:=Dt.chg0 y6 cH
 have z7:dSS.Ow G0 (u9,h9) arr:=Dt.chg0 y7 cH
 clear y1 y2 y3 y4 y5 y6 y7
 simp [emps,empOp,empB,VM.look,b0,ones]
 refine Qd (Zw w h u2 b z1.1.rd.isI z1.2) ?_
 rintro _ G1 ⟨n1,rfl,o1,c1,m1,d1⟩
 have q1:=Xb o1
 have lt1:=dMesh.lt o1
 have lc1:=c1.1
 have b0:=Qb b0 c1 (by simp)
 have bR:=Qb bR c1 (by simp)
 have cH:=cH.trans c1
 have z2:=Dt.chg0 (T:=dClasses) z2 c1
 have z3:=Dt.chg0 (T:=dSS) z3 c1
 have z4:=Dt.chg0 (T:=dIntS) z4 c1
 have z5:=Dt.chg0 (T:=dIntS) z5 c1
 have z6:=Dt.chg0 (T:=dSS) z6 c1
 have z7:=Dt.chg0 (T:=dSS) z7 c1
 try simp [-Qp,W1,VM.look,b0,ones]
 refine Qd (Za u3 u4 A B z2.1.1.rd.isI z2.2.1.rd.isI z2.1.2 z2.2.2) ?_
 rintro _ G2 ⟨n2,rfl,o2,c2,m2,d2⟩
 have q2:=Q5 o2
 have lt2:=dClasses.lt o2
 have lc2:=c2.1
 have b0:=Qb b0 c2 (by simp)
 have bR:=Qb bR c2 (by simp)
 have cH:=cH.trans c2
 have z3:=Dt.chg0 (T:=dSS) z3 c2
 have z4:=Dt.chg0 (T:=dIntS) z4 c2
 have z5:=Dt.chg0 (T:=dIntS) z5 c2
 have z6:=Dt.chg0 (T:=dSS) z6 c2
 have z7:=Dt.chg0 (T:=dSS) z7 c2
 have o1:=Dt.chg0 (T:=dMesh) o1 c2
 try simp [-Qp,Xd,VM.look,b0,ones]
 refine Qd (Um u5 h5 buf z3.1.rd z3.2.1 z3.2.2) ?_
 rintro _ G3 ⟨n3,rfl,o3,c3,m3,d3⟩
 have q3:=Vf o3
 have lt3:=dSS.lt o3
 have lc3:=c3.1
 have b0:=Qb b0 c3 (by simp)
 have bR:=Qb bR c3 (by simp)
 have cH:=cH.trans c3
 have z4:=Dt.chg0 (T:=dIntS) z4 c3
 have z5:=Dt.chg0 (T:=dIntS) z5 c3
 have z6:=Dt.chg0 (T:=dSS) z6 c3
 have z7:=Dt.chg0 (T:=dSS) z7 c3
 have o1:=Dt.chg0 (T:=dMesh) o1 c3
 have o2:=Dt.chg0 (T:=dClasses) o2 c3
 try simp [-Qp,show dSS.val n3 buf=n3.1 from rfl,VM.look,b0,ones]
 obtain ⟨n4,L4,hap4,o4,m4⟩:=Ms (frz:=H.length) u6 own z4.1.rd z4.2
 have c4:Chg G3 (G3++L4) []:=Chg.app _
 have d4:=Wk n4
 have q4:=Zm o4
 simp [-Qp,hap4,VM.look]
 generalize G3++L4=G4 at *
 have lt4:=dIntS.lt o4
 have lc4:=c4.1
 have b0:=Qb b0 c4 (by simp)
 have bR:=Qb bR c4 (by simp)
 have cH:=cH.trans c4
 have z5:=Dt.chg0 (T:=dIntS) z5 c4
 have z6:=Dt.chg0 (T:=dSS) z6 c4
 have z7:=Dt.chg0 (T:=dSS) z7 c4
 have o1:=Dt.chg0 (T:=dMesh) o1 c4
 have o2:=Dt.chg0 (T:=dClasses) o2 c4
 have o3:=Dt.chg0 (T:=dSS) o3 c4
 try simp [-Qp,VM.look,b0,ones]
 obtain ⟨n5,L5,hap5,o5,m5⟩:=Ms (frz:=H.length) u7 turn z5.1.rd z5.2
 have c5:Chg G4 (G4++L5) []:=Chg.app _
 have d5:=Wk n5
 have q5:=Zm o5
 simp [-Qp,hap5,VM.look]
 generalize G4++L5=G5 at *
 have lt5:=dIntS.lt o5
 have lc5:=c5.1
 have b0:=Qb b0 c5 (by simp)
 have bR:=Qb bR c5 (by simp)
 have cH:=cH.trans c5
 have z6:=Dt.chg0 (T:=dSS) z6 c5
 have z7:=Dt.chg0 (T:=dSS) z7 c5
 have o1:=Dt.chg0 (T:=dMesh) o1 c5
 have o2:=Dt.chg0 (T:=dClasses) o2 c5
 have o3:=Dt.chg0 (T:=dSS) o3 c5
 have o4:=Dt.chg0 (T:=dIntS) o4 c5
 try simp [-Qp,VM.look,b0,ones]
 refine Qd (Um u8 h8 src z6.1.rd z6.2.1 z6.2.2) ?_
 rintro _ G6 ⟨n6,rfl,o6,c6,m6,d6⟩
 have q6:=Vf o6
 have lt6:=dSS.lt o6
 have lc6:=c6.1
 have b0:=Qb b0 c6 (by simp)
 have bR:=Qb bR c6 (by simp)
 have cH:=cH.trans c6
 have z7:=Dt.chg0 (T:=dSS) z7 c6
 have o1:=Dt.chg0 (T:=dMesh) o1 c6
 have o2:=Dt.chg0 (T:=dClasses) o2 c6
 have o3:=Dt.chg0 (T:=dSS) o3 c6
 have o4:=Dt.chg0 (T:=dIntS) o4 c6
 have o5:=Dt.chg0 (T:=dIntS) o5 c6
 try simp [-Qp,show dSS.val n6 src=n6.1 from rfl,VM.look,b0,ones]
 refine Qd (Um u9 h9 arr z7.1.rd z7.2.1 z7.2.2) ?_
 rintro _ G7 ⟨n7,rfl,o7,c7,m7,d7⟩
 have q7:=Vf o7
 have lt7:=dSS.lt o7
 have lc7:=c7.1
 have b0:=Qb b0 c7 (by simp)
 have bR:=Qb bR c7 (by simp)
 have cH:=cH.trans c7
 have o1:=Dt.chg0 (T:=dMesh) o1 c7
 have o2:=Dt.chg0 (T:=dClasses) o2 c7
 have o3:=Dt.chg0 (T:=dSS) o3 c7
 have o4:=Dt.chg0 (T:=dIntS) o4 c7
 have o5:=Dt.chg0 (T:=dIntS) o5 c7
 have o6:=Dt.chg0 (T:=dSS) o6 c7
 have gR:=Qo (r':=⟨[.int .i64 w,.int .i64 h,n1,n2.1,n2.2,n3.1,n4,n5,n6.1,n7.1,.int .i64 tm],0,38⟩) bR
 have eR:Chg G7 (G7.set (H.length+1) ⟨[.int .i64 w,.int .i64 h,n1,n2.1,n2.2,n3.1,n4,n5,n6.1,n7.1,.int .i64 tm],0,38⟩) [H.length+1]:=Qh _ _
 have o1:=Dt.chg (T:=dMesh) o1 eR (fun i hi hh=>by have:=m1 i hi;simp at hh;omega)
 have o2:=Dt.chg (T:=dClasses) o2 eR (fun i hi hh=>by have:=m2 i hi;simp at hh;omega)
 have o3:=Dt.chg (T:=dSS) o3 eR (fun i hi hh=>by have:=m3 i hi;simp at hh;omega)
 have o4:=Dt.chg (T:=dIntS) o4 eR (fun i hi hh=>by have:=m4 i hi;simp at hh;omega)
 have o5:=Dt.chg (T:=dIntS) o5 eR (fun i hi hh=>by have:=m5 i hi;simp at hh;omega)
 have o6:=Dt.chg (T:=dSS) o6 eR (fun i hi hh=>by have:=m6 i hi;simp at hh;omega)
 have o7:=Dt.chg (T:=dSS) o7 eR (fun i hi hh=>by have:=m7 i hi;simp at hh;omega)
 have cH:=cH.trans' eR (fun i hi=>.inr (by simp at hi;omega))
 simp [show dSS.val n7 arr=n7.1 from rfl,VM.look,b0,bR,gR,hF,q1,q2,q3,q4,q5,q6,q7]
 refine ⟨(n1,n2,n3,n4,n5,n6,n7,()),rfl,⟨o1,o2,o3,o4,o5,o6,o7,trivial⟩,cH,fun i hi=>?_,?_⟩
 ·rcases List.mem_append.1 hi with hi|hi
  ·have:=m1 i hi;omega
  rcases List.mem_append.1 hi with hi|hi
  ·have:=m2 i hi;omega
  rcases List.mem_append.1 hi with hi|hi
  ·have:=m3 i hi;omega
  rcases List.mem_append.1 hi with hi|hi
  ·have:=m4 i hi;omega
  rcases List.mem_append.1 hi with hi|hi
  ·have:=m5 i hi;omega
  rcases List.mem_append.1 hi with hi|hi
  ·have:=m6 i hi;omega
  rcases List.mem_append.1 hi with hi|hi
  ·have:=m7 i hi;omega
  ·simp [dNone] at hi
 ·have z7:(dSS.ids n7++[]).Nodup∧∀i∈dSS.ids n7++[],G6.length≤i:=⟨by simpa using d7,fun i hi=>by simp at hi;have:=m7 i hi;omega⟩
  have z6:(dSS.ids n6++(dSS.ids n7++[])).Nodup∧∀i∈dSS.ids n6++(dSS.ids n7++[]),G5.length≤i:=⟨Z5 d6 z7.1 lt6 z7.2,fun i hi=>by rcases List.mem_append.1 hi with hi|hi;(have:=m6 i hi;omega);(have:=z7.2 i hi;omega)⟩
  have z5:(dIntS.ids n5++(dSS.ids n6++(dSS.ids n7++[]))).Nodup∧∀i∈dIntS.ids n5++(dSS.ids n6++(dSS.ids n7++[])),G4.length≤i:=⟨Z5 d5 z6.1 lt5 z6.2,fun i hi=>by rcases List.mem_append.1 hi with hi|hi;(have:=m5 i hi;omega);(have:=z6.2 i hi;omega)⟩
  have z4:(dIntS.ids n4++(dIntS.ids n5++(dSS.ids n6++(dSS.ids n7++[])))).Nodup∧∀i∈dIntS.ids n4++(dIntS.ids n5++(dSS.ids n6++(dSS.ids n7++[]))),G3.length≤i:=⟨Z5 d4 z5.1 lt4 z5.2,fun i hi=>by rcases List.mem_append.1 hi with hi|hi;(have:=m4 i hi;omega);(have:=z5.2 i hi;omega)⟩
  have z3:(dSS.ids n3++(dIntS.ids n4++(dIntS.ids n5++(dSS.ids n6++(dSS.ids n7++[]))))).Nodup∧∀i∈dSS.ids n3++(dIntS.ids n4++(dIntS.ids n5++(dSS.ids n6++(dSS.ids n7++[])))),G2.length≤i:=⟨Z5 d3 z4.1 lt3 z4.2,fun i hi=>by rcases List.mem_append.1 hi with hi|hi;(have:=m3 i hi;omega);(have:=z4.2 i hi;omega)⟩
  have z2:(dClasses.ids n2++(dSS.ids n3++(dIntS.ids n4++(dIntS.ids n5++(dSS.ids n6++(dSS.ids n7++[])))))).Nodup∧∀i∈dClasses.ids n2++(dSS.ids n3++(dIntS.ids n4++(dIntS.ids n5++(dSS.ids n6++(dSS.ids n7++[]))))),G1.length≤i:=⟨Z5 d2 z3.1 lt2 z3.2,fun i hi=>by rcases List.mem_append.1 hi with hi|hi;(have:=m2 i hi;omega);(have:=z3.2 i hi;omega)⟩
  exact Z5 d1 z2.1 lt1 z2.2
def flits (a:SSD):Nat:=ahead a a.length
def idle (x:NetD):Prop:=flits x.2.2.1=0∧flits x.2.2.2.2.2.1=0
instance (x:NetD):Decidable (idle x):=inferInstanceAs (Decidable (_∧_))
def idleOk (x:NetD):Prop:=netOk x∧idle x
instance (x:NetD):Decidable (idleOk x):=inferInstanceAs (Decidable (_∧_))
theorem Mj {v:SSV} {a:SSD} (h:dSS.Ow H v a):vcall C frz 78 [v.1] H=some (.int .i64 (flits a),H):=by
 refine wp.exact (by simp) ?_ rfl
 rw [Qa (fn:=Tryz.f78) Tryz.func78 rfl (by kernel_rfl) rfl]
 obtain ⟨ho,h1,h2⟩:=h
 have rd:=ho.rd
 have ll:=rd.1.len (P:=Tryz.prog) (ty:=36) (by simp)
 have el:=rd.2.1
 rw [el] at ll
 simp [ll]
 refine Qg (fun m t H'=>∃i:Nat,m=a.length-i∧i≤a.length∧t 3=.int .i64 (ahead a i)∧t 6=v.1∧t 7=.int .i64 a.length∧t 8=.int .i64 i∧H'=H) ?_ (n:=a.length) ⟨0,rfl,by omega,by simp [ahead],by simp,by simp,by simp,rfl⟩
 rintro m t H' ⟨i,rfl,hi,t3,t6,t7,t8,rfl⟩ ih
 simp [t3,t6,t7,t8]
 refine Qc ?_ ?_<;>intro g
 ·have hi':i<a.length:=by omega
  obtain ⟨u,_,a2,a3,a4⟩:=Xi rd (ty:=36) (e:=109) (by simp) (by simp) hi'
  have lu:=a4.len (P:=Tryz.prog) (ty:=109) (by simp)
  have al:=Ia a h2 i (by omega)
  have asx:=Ob a hi'
  have hm:=h2 _ (List.getElem_mem hi')
  have hg:a.getD i []=a[i]:=by simp [List.getD_eq_getElem?_getD,hi']
  rw [hg] at asx
  have w1:∀[Inhabited Unit],IntKind.i64.wrap ((ahead a i:Int)+(a[i].length:Int))=((ahead a (i+1):Nat):Int):=by intro _;rw [w64 (by omega) (by omega),asx];omega
  simp [t3,t6,t7,t8,a2,a3,lu,w1]
  refine ih (a.length-(i+1)) _ _ ⟨i+1,rfl,by omega,by simp,by simp [t6],by simp [t7],?_,rfl⟩ (by omega)
  simp;rw [w64 (by omega) (by omega)]
 ·have:i=a.length:=by omega
  subst this
  simp [t3,t6,t7,t8,flits]
theorem Ir {id:Nat} {w h tm:Int} {u2 u3 u4 u6 u7 u9:Value} {v5 v8:SSV} {buf src:SSD} (hr:H[id]? = some ⟨[.int .i64 w,.int .i64 h,u2,u3,u4,v5.1,u6,u7,v8.1,u9,.int .i64 tm],0,38⟩)
 (h5:dSS.Ow H v5 buf) (h8:dSS.Ow H v8 src):vcall C frz 45 [.pointer (some ⟨id,0,some 0⟩)] H=some (.bool (decide (flits buf=0∧flits src=0)),H):=by
 rw [Qa (fn:=Tryz.f45) Tryz.func45 rfl (by kernel_rfl) rfl]
 have e1:=fun F=>Mj (frz:=F) h5
 have e2:=fun F=>Mj (frz:=F) h8
 by_cases g:flits buf=0
 ·simp [VM.vnil,VM.look,hr,e1,e2,g]
 ·simp [VM.vnil,VM.look,hr,e1,e2,g]
theorem Jb {v:NetV} {x:NetD} (o:dNet.Ow H v x):vcall C frz 17 [dNet.val v x] H=some (.bool (decide (idleOk x)),H):=by
 have nk:=fun F L=>Sd (frz:=F) (H:=H++L) (v:=v) (x:=x) (Dt.app (T:=dNet) o)
 have ones:=Qk o
 obtain ⟨u2,⟨u3,u4⟩,⟨u5,h5⟩,u6,u7,⟨u8,h8⟩,⟨u9,h9⟩,_⟩:=v
 obtain ⟨⟨w,h,b⟩,⟨A,B⟩,buf,own,turn,src,arr,tm⟩:=x
 obtain ⟨o2,o3,o5,o6,o7,o8,o9,_⟩:=o
 simp only at o2 o3 o5 o6 o7 o8 o9 ones
 rw [Ql]
 simp only [Ql] at nk
 refine wp.exact (by simp) ?_ rfl
 rw [Qa (fn:=Tryz.f17) Tryz.func17 rfl (by kernel_rfl) rfl]
 have ii:=fun F=>Ir (frz:=F) (H:=H++[⟨[.int .i64 w,.int .i64 h,u2,u3,u4,u5,u6,u7,u8,u9,.int .i64 tm],0,38⟩]) (id:=H.length) (w:=w) (h:=h) (tm:=tm) (u2:=u2) (u3:=u3) (u4:=u4) (u6:=u6) (u7:=u7) (u9:=u9) (v5:=(u5,h5)) (v8:=(u8,h8)) (by simp) (Dt.app o5) (Dt.app o8)
 have hY:decide (idleOk ((w,h,b),(A,B),buf,own,turn,src,arr,tm))=(decide (netOk ((w,h,b),(A,B),buf,own,turn,src,arr,tm))&&decide (flits buf=0∧flits src=0)):=by
  rw [Bool.eq_iff_iff,Bool.and_eq_true,decide_eq_true_eq,decide_eq_true_eq,decide_eq_true_eq];exact Iff.rfl
 generalize decide (idleOk ((w,h,b),(A,B),buf,own,turn,src,arr,tm))=Y at *
 generalize decide (netOk ((w,h,b),(A,B),buf,own,turn,src,arr,tm))=P1 at *
 generalize decide (flits buf=0∧flits src=0)=P2 at *
 simp [ones,nk]
 cases P1<;>simp [ones,ii,hY]
end Go.Proofs.YtaldglgobgjeaaaGreat.V
set_option linter.all false
namespace Go.Proofs.YtaldglgobgjeaaaGreat.V
open Go Go.VM Go.Proofs
set_option maxRecDepth 10000
theorem Ib {α β:Type} {f:α→β} {l:List α} (nd:(l.map f).Nodup) {i:Nat} (h:i<l.length):f l[i]∉(l.take i).map f:=fun hh=>by
 have e:(l.take i).map f++(l.drop i).map f=l.map f:=by rw [← List.map_append,List.take_append_drop]
 rw [← e] at nd
 have hm:f l[i]∈(l.drop i).map f:=List.mem_map_of_mem (by rw [List.drop_eq_getElem_cons h];exact List.mem_cons_self ..)
 exact (List.nodup_append.1 nd).2.2 _ hh _ hm rfl
theorem Ba:∀(l:List GrD) (s:SSD) (j:Nat),j∉l.map frm→(l.foldl popS s).getD j []=s.getD j []
 | [],s,j,_=>rfl
 | g::l,s,j,h=>by
  rw [List.foldl_cons,Ba l _ j (fun hh=>h (List.mem_cons_of_mem _ hh)),popS,Qy]
  exact fun e=>h (e▸List.mem_cons_self ..)
theorem D7:∀(l:List Nat) (s:SSD) (j:Nat),j∉l→(l.foldl srcS s).getD j []=s.getD j []
 | [],s,j,_=>rfl
 | g::l,s,j,h=>by
  rw [List.foldl_cons,D7 l _ j (fun hh=>h (List.mem_cons_of_mem _ hh)),srcS,Qy]
  exact fun e=>h (e▸List.mem_cons_self ..)
theorem Rc {x:NetD} (h:netOk x):runOk x:=by
 obtain ⟨h1,h2,h3,h4,h5,h6,h7⟩:=h
 refine ⟨h1,h2,fun j f hf=>?_,fun j f hf=>?_,h6⟩
 ·by_cases hl:j<x.2.2.1.length
  ·obtain ⟨_,k2,k3⟩:=h3 j hl
   exact ⟨k2 f hf,k3 f hf⟩
  ·simp [List.getD_eq_getElem?_getD,List.getElem?_eq_none (Nat.le_of_not_lt hl)] at hf
 ·by_cases hl:j<x.2.2.2.2.2.1.length
  ·exact (h4 _ (Uk hl)).2 f hf
  ·simp [List.getD_eq_getElem?_getD,List.getElem?_eq_none (Nat.le_of_not_lt hl)] at hf
theorem Cj {w h:Int} {b T:List Int} (k:tableOk w h b T) {a c:Int} (ha:isN w h a) (hc:isN w h c):inR 0 (portOf w h T a c) 4:=by
 obtain ⟨h1,h2⟩:=k
 have ha':=ha
 have hc':=hc
 obtain ⟨a1,a2⟩:=ha'
 obtain ⟨c1,c2⟩:=hc'
 have e1:((a.toNat:Nat):Int)=a:=by omega
 have e2:((c.toNat:Nat):Int)=c:=by omega
 obtain ⟨g1,g2⟩:=h2 a.toNat (by omega) c.toNat (by omega)
 rw [e1] at g1 g2
 rw [e2] at g2
 by_cases e:a=c
 ·subst e;rw [g1 rfl];exact ⟨by omega,by omega⟩
 ·have hw:=g2 (fun hh=>e (by omega))
  by_cases so:stepOk w h b T a c
  ·exact ⟨so.1.1,by have:=so.1.2;omega⟩
  ·exfalso
   apply hw
   obtain ⟨f,hf⟩:∃f,(cnt w h).toNat=f+1:=⟨(cnt w h).toNat-1,by omega⟩
   unfold walk
   rw [hf]
   simp only [walkN]
   rw [if_neg so]
   split
   ·first|rfl|rw [if_neg e]
   ·rfl
def older (x:NetD) (k:Int):NetD:=(x.1,x.2.1,x.2.2.1,x.2.2.2.1,x.2.2.2.2.1,x.2.2.2.2.2.1,x.2.2.2.2.2.2.1,x.2.2.2.2.2.2.2+k)
theorem W5 {s:SSD} (h:flits s=0) (j:Nat):s.getD j []=[]:=by
 by_cases hl:j<s.length
 ·have:=Fq s _ (Uk hl)
  unfold flits ahead at h
  rw [List.take_length] at h
  exact List.length_eq_zero_iff.1 (by omega)
 ·simp [List.getD_eq_getElem?_getD,List.getElem?_eq_none (Nat.le_of_not_lt hl)]
theorem Mx {x:NetD} (h:idle x):stepN x=older x 1:=by
 have e1:allN x=[]:=List.eq_nil_iff_forall_not_mem.2 fun g hg=>Td (Yl hg).2.2.2 (W5 h.1 _)
 have e2:enterN x=[]:=List.eq_nil_iff_forall_not_mem.2 fun k hk=>(Xe hk).2.1 (W5 h.2 _)
 unfold stepN
 rw [e1,e2]
 rfl
noncomputable def runN (x:NetD):Nat→NetD
 | 0=>x
 | k+1=>stepN (runN x k)
theorem yl {x:NetD} (h:runOk x):∀k,runOk (runN x k)
 | 0=>h
 | k+1=>Of (yl h k)
theorem Il {x:NetD} {L:Nat} (h1:allL L x.2.2.1) (h2:allL L x.2.2.2.2.2.2.1):∀k,allL (L+96*k) (runN x k).2.2.1∧allL (L+96*k) (runN x k).2.2.2.2.2.2.1
 | 0=>⟨h1,h2⟩
 | k+1=>by
  obtain ⟨a,b⟩:=Il h1 h2 k
  exact Bm (x:=runN x k) a b
theorem Uy (x:NetD):∀k:Nat,(runN x k).2.2.2.2.2.2.2=x.2.2.2.2.2.2.2+(k:Int)
 | 0=>by simp [runN]
 | k+1=>by
  show (runN x k).2.2.2.2.2.2.2+1=_
  rw [Uy x k];omega
end Go.Proofs.YtaldglgobgjeaaaGreat.V
set_option linter.all false
namespace Go.Proofs.YtaldglgobgjeaaaGreat.V
open Go Go.VM
set_option maxRecDepth 100000
def geoB:Bool:=(List.range 5).all fun w=>(List.range 5).all fun h=>(List.range 16).all fun a=>(List.range 4).all fun p=>
 decide (next (w:Int) h a p<0) || (decide (next w h (next w h a p) (opp p)=a)&&(decide (0≤opp p)&&(decide (opp p<4)&&(decide (next (w:Int) h a p≠a)&&decide (opp (opp p)=p)))))
theorem Qag:geoB=true:=by decide +kernel
theorem geo {w h a:Int} {p:Nat} (hp:p<4) (ha:isN w h a) (hu:0≤next w h a p):next w h (next w h a p) (opp p)=a∧0≤opp p∧opp p<4∧next w h a p≠a∧opp (opp p)=p:=by
 obtain ⟨⟨⟨a1,a2⟩,b1,b2⟩,c1,c2,c3⟩:=Uc ha
 have h0:=Qag
 unfold geoB at h0
 rw [List.all_eq_true] at h0
 have h1:=h0 w.toNat (by simp;omega)
 rw [List.all_eq_true] at h1
 have h2:=h1 h.toNat (by simp;omega)
 rw [List.all_eq_true] at h2
 have h3:=h2 a.toNat (by simp;omega)
 rw [List.all_eq_true] at h3
 have h4:=h3 p (by simp;omega)
 have e1:(w.toNat:Int)=w:=by omega
 have e2:(h.toNat:Int)=h:=by omega
 have e3:(a.toNat:Int)=a:=by omega
 rw [e1,e2,e3] at h4
 simp only [Bool.or_eq_true,Bool.and_eq_true,decide_eq_true_eq] at h4
 rcases h4 with h4|h4
 ·omega
 ·exact h4
theorem Vq {w h:Int} {b:List Int} {a:Int} {p:Nat} (hp:p<4) (h1:link w h b (4*a+p)):∃q:Nat,q<4∧link w h b (4*next w h a p+q)∧next w h (next w h a p) q=a:=by
 obtain ⟨ha,hu,he⟩:=Wd hp h1
 obtain ⟨g1,g2,g3,g4,g5⟩:=geo hp ha hu.1
 have e0:(4*a+(p:Int))%4=p:=by omega
 have hb:backC w h (4*a+p)=4*next w h a p+opp p:=by unfold backC;rw [he,e0]
 have h2:=h1.2
 rw [hb] at h2
 obtain ⟨q,hq⟩:=Int.eq_ofNat_of_zero_le g2
 rw [hq] at g1 g3 g5 h2
 have eq1:(4*next w h a p+(q:Int))/4=next w h a p:=by omega
 have eq2:(4*next w h a p+(q:Int))%4=q:=by omega
 refine ⟨q,by omega,⟨h2,?_⟩,g1⟩
 have:backC w h (4*next w h a p+q)=4*a+p:=by unfold backC endC;rw [eq1,eq2,g1,g5]
 rw [this];exact h1.1
structure VOut (w h:Int) (b:List Int) (a d:Int) (l:List Nat) (x y:List Int×List Int):Prop where
 keep:∀v,0≤v→0≤rd x.1 v→rd y.1 v=rd x.1 v
 new:∀v,isN w h v→rd x.1 v<0→0≤rd y.1 v→rd y.1 v=d∧v∈y.2∧∃p:Nat,p<4∧link w h b (4*a+p)∧next w h a p=v
 all:∀p∈l,link w h b (4*a+(p:Nat))→0≤rd y.1 (next w h a p)
 pre:∀v∈x.2,v∈y.2
 len:y.1.length=x.1.length
theorem Kd {w h:Int} {b:List Int} {a d:Int} (hd:0≤d):∀(l:List Nat) (x:List Int×List Int),(∀p∈l,p<4)→(∀v,isN w h v→v<x.1.length)→VOut w h b a d l x (l.foldl (vst w h b a d) x)
 | [],x,_,_=>⟨fun _ _ _=>rfl,fun v _ h1 h2=>by simp only [List.foldl_nil] at h2;omega,fun p hp=>by simp at hp,fun _ h=>h,rfl⟩
 | p::l,x,hl,hlen=>by
  have hp:=hl p (by simp)
  have E:=Kg (w:=w) (h:=h) (b:=b) (a:=a) (x:=x) hp hd
  have ih:=Kd (w:=w) (h:=h) (b:=b) (a:=a) hd l (vst w h b a d x p) (fun q hq=>hl q (by simp [hq])) (by rw [E.len];exact hlen)
  refine ⟨fun v h0 h1=>?_,fun v hv h1 h2=>?_,fun q hq hlk=>?_,fun v hv=>ih.pre v (E.pre v hv),by rw [List.foldl_cons,ih.len,E.len]⟩
  ·have e1:=E.old v h0 h1
   rw [List.foldl_cons,ih.keep v h0 (by omega),e1]
  ·by_cases h3:rd (vst w h b a d x p).1 v<0
   ·exact ih.new v hv h3 h2
   ·have h4:0≤rd (vst w h b a d x p).1 v:=by omega
    have e2:=ih.keep v hv.1 h4
    have:link w h b (4*a+p)∧next w h a p=v∧rd (vst w h b a d x p).1 v=d∧v∈(vst w h b a d x p).2:=by
     unfold vst at h4 ⊢
     split at h4
     ·rename_i hc
      rw [if_pos hc]
      obtain ⟨_,hn,_⟩:=Wd hp hc.1
      have hln:=hlen _ hn
      simp only at h4 ⊢
      rw [St hn.1 hln hv.1] at h4 ⊢
      by_cases hvn:v=next w h a p
      ·rw [if_pos hvn];exact ⟨hc.1,hvn.symm,rfl,by simp [hvn]⟩
      ·rw [if_neg hvn] at h4;omega
     ·omega
    rw [List.foldl_cons]
    exact ⟨by rw [e2];exact this.2.2.1,ih.pre v this.2.2.2,p,hp,this.1,this.2.1⟩
  ·rcases List.mem_cons.1 hq with rfl|hq
   ·obtain ⟨_,hn,_⟩:=Wd hp hlk
    have hln:=hlen _ hn
    have h4:0≤rd (vst w h b a d x q).1 (next w h a q):=by
     unfold vst
     split
     ·simp only;rw [St hn.1 hln hn.1,if_pos rfl];exact hd
     ·rename_i hc
      by_cases h5:rd x.1 (next w h a q)<0
      ·exact absurd ⟨hlk,h5⟩ hc
      ·omega
    rw [List.foldl_cons,ih.keep _ hn.1 h4];exact h4
   ·exact ih.all q hq hlk
structure Inv2 (w h:Int) (b:List Int) (root:Int) (s rest nx:List Int):Prop where
 cl:∀v,isN w h v→0≤rd s v→v∉rest→v∉nx→∀p:Nat,p<4→link w h b (4*v+p)→0≤rd s (next w h v p)
 pre:∀v,isN w h v→0<rd s v→∃u,isN w h u∧rd s u=rd s v-1∧∃q:Nat,q<4∧link w h b (4*u+q)∧next w h u q=v
 zero:rd s root=0∧∀v,isN w h v→rd s v=0→v=root
theorem Run.inv2 {w h root:Int} {b s rest nx r:List Int} {d:Int} (hr:isN w h root) (R:Run w h b s rest nx d r):Inv w h s rest nx d→Inv2 w h b root s rest nx→Inv2 w h b root r [] []:=by
 induction R with
 | done s d=>exact fun _ j=>j
 | level _ ih=>exact fun i j=>ih i.level ⟨fun v hv h0 h1 h2=>j.cl v hv h0 (by simp) h1,j.pre,j.zero⟩
 | @node s a rest nx d r _ ih=>
  intro i j
  have h1:=i.one
  obtain ⟨ha,hda⟩:=i.fr a (by simp)
  have O:VOut w h b a d (List.range 4) (s,nx) (vis w h b a d (s,nx)):=Kd (by omega) _ _ (by simp) (fun v hv=>by have:=i.len;have:=hv.2;simp only;omega)
  refine ih i.node ⟨fun v hv h0 hn1 hn2 p hp hlk=>?_,fun v hv h0=>?_,?_,fun v hv h0=>?_⟩
  ·have hnx:=(Wd hp hlk).2.1
   by_cases h2:0≤rd s v
   ·by_cases hva:v=a
    ·subst hva;exact O.all p (by simp;omega) hlk
    ·have h3:=j.cl v hv h2 (by simp [hva,hn1]) (fun hh=>hn2 (O.pre v hh)) p hp hlk
     rw [O.keep _ hnx.1 h3];exact h3
   ·exact absurd (O.new v hv (by simp only;omega) h0).2.1 hn2
  ·by_cases h2:0≤rd s v
   ·have e:=O.keep v hv.1 h2
    simp only at e
    rw [e] at h0 ⊢
    obtain ⟨u,hu,hu1,hq⟩:=j.pre v hv h0
    refine ⟨u,hu,?_,hq⟩
    rw [O.keep u hu.1 (by simp only;omega)];exact hu1
   ·obtain ⟨e,_,hq⟩:=O.new v hv (by simp only;omega) (by omega)
    refine ⟨a,ha,?_,hq⟩
    rw [O.keep a ha.1 (by simp only;omega),e];exact hda
  ·have:=j.zero.1
   rw [O.keep root hr.1 (by simp only;omega)];exact this
  ·by_cases h2:0≤rd s v
   ·have e:=O.keep v hv.1 h2
    simp only at e
    exact j.zero.2 v hv (by rw [← e];exact h0)
   ·obtain ⟨e,_⟩:=O.new v hv (by simp only;omega) (by omega)
    omega
theorem U2 {w h root v:Int} (hr:isN w h root) (hv:isN w h v):rd (start w h root) v=if v=root then 0 else -1:=by
 have hc:=Qe w h
 have h1:=hr.2
 have h2:=hv.2
 unfold start
 rw [St hr.1 (by simp;omega) hv.1]
 by_cases h3:v=root
 ·rw [if_pos h3,if_pos h3]
 ·rw [if_neg h3,if_neg h3]
  have:=Ux (s:=List.replicate (cnt w h).toNat (-1:Int)) hv.1 (by simp;omega)
  exact List.eq_of_mem_replicate this
theorem Nh {w h root:Int} (b:List Int) (hr:isN w h root):Inv2 w h b root (start w h root) [root] []:=by
 refine ⟨fun v hv h0 h1=>?_,fun v hv h0=>?_,by rw [U2 hr hr,if_pos rfl],fun v hv h0=>?_⟩
 ·rw [U2 hr hv] at h0
  split at h0
  ·rename_i h2;simp [h2] at h1
  ·omega
 ·rw [U2 hr hv] at h0;split at h0<;>omega
 ·rw [U2 hr hv] at h0
  split at h0
  ·assumption
  ·omega
theorem Wh {w h root:Int} {b:List Int} (H:rootOk w h b root):Inv2 w h b root (depths w h b root) [] []:=
 (Yv H).inv2 H.2 (X0 H.2).1 (Nh b H.2)
theorem Wi {w h:Int} {b:List Int} (hc:conn w h b) {r:Int} (hr:isN w h r):∀v,isN w h v→0≤rd (depths w h b r) v:=by
 have h0:=C7 hc.1.2
 have H0:rootOk w h b 0:=⟨hc.1,h0⟩
 have Hr:rootOk w h b r:=⟨hc.1,hr⟩
 have i0:=Wb H0
 have j0:=Wh H0
 have j:=Wh Hr
 have all0:∀v,isN w h v→0≤rd (depths w h b 0) v:=fun v hv=>by
  have hm:=Ux (s:=depths w h b 0) hv.1 (by have:=hv.2;omega)
  have:=(i0.2 _ hm).1
  by_cases h1:rd (depths w h b 0) v=-1
  ·rw [h1] at hm;exact absurd hm hc.2
  ·omega
 have down:∀(n:Nat) v,isN w h v→rd (depths w h b 0) v=n→0≤rd (depths w h b r) v→0≤rd (depths w h b r) 0:=by
  intro n
  induction n with
  | zero=>
   intro v hv h1 h2
   have:=j0.zero.2 v hv (by omega)
   rw [this] at h2;exact h2
  | succ n ih=>
   intro v hv h1 h2
   obtain ⟨u,hu,hu1,q,hq,hlk,hnx⟩:=j0.pre v hv (by omega)
   obtain ⟨q',hq',hlk',hnx'⟩:=Vq hq hlk
   rw [hnx] at hlk' hnx'
   have h3:=j.cl v hv h2 (by simp) (by simp) q' hq' hlk'
   rw [hnx'] at h3
   exact ih u hu (by omega) h3
 have hr0:0≤rd (depths w h b r) 0:=by
  have h1:=all0 r hr
  exact down _ r hr (Int.toNat_of_nonneg h1).symm (by have:=j.zero.1;omega)
 have up:∀(n:Nat) v,isN w h v→rd (depths w h b 0) v=n→0≤rd (depths w h b r) v:=by
  intro n
  induction n with
  | zero=>
   intro v hv h1
   have:=j0.zero.2 v hv (by omega)
   rw [this];exact hr0
  | succ n ih=>
   intro v hv h1
   obtain ⟨u,hu,hu1,q,hq,hlk,hnx⟩:=j0.pre v hv (by omega)
   have h3:=j.cl u hu (ih u hu (by omega)) (by simp) (by simp) q hq hlk
   rw [hnx] at h3;exact h3
 exact fun v hv=>up _ v hv (Int.toNat_of_nonneg (all0 v hv)).symm
theorem Fc {w h root:Int} {b:List Int} (H:rootOk w h b root) {v:Int} (hv:isN w h v) (h0:0<rd (depths w h b root) v) :
 ∃p:Nat,p<4∧par w h b (depths w h b root) v=next w h v p∧link w h b (4*v+p)∧rd (depths w h b root) (next w h v p)=rd (depths w h b root) v-1:=by
 rcases Ma w h b (depths w h b root) v with h1|⟨p,hp,h2,h3,_⟩
 ·exfalso
  obtain ⟨u,hu,hu1,q,hq,hlk,hnx⟩:=(Wh H).pre v hv h0
  obtain ⟨q',hq',hlk',hnx'⟩:=Vq hq hlk
  rw [hnx] at hlk' hnx'
  have ht:toRoot w h b (depths w h b root) v q':=⟨hlk',by rw [hnx'];exact hu1⟩
  unfold par at h1
  rw [if_pos h0] at h1
  have nn:∀p:Nat,p<4→toRoot w h b (depths w h b root) v p→next w h v p≠-1:=fun p hp ht hh=>by
   have:=(Wd hp ht.1).2.1.1;omega
  by_cases t0:toRoot w h b (depths w h b root) v 0
  ·rw [if_pos t0] at h1;exact nn 0 (by omega) t0 h1
  rw [if_neg t0] at h1
  by_cases t1:toRoot w h b (depths w h b root) v 1
  ·rw [if_pos t1] at h1;exact nn 1 (by omega) t1 h1
  rw [if_neg t1] at h1
  by_cases t2:toRoot w h b (depths w h b root) v 2
  ·rw [if_pos t2] at h1;exact nn 2 (by omega) t2 h1
  rw [if_neg t2] at h1
  by_cases t3:toRoot w h b (depths w h b root) v 3
  ·rw [if_pos t3] at h1;exact nn 3 (by omega) t3 h1
  have:q'=0∨q'=1∨q'=2∨q'=3:=by omega
  rcases this with rfl|rfl|rfl|rfl
  ·exact t0 ht
  ·exact t1 ht
  ·exact t2 ht
  ·exact t3 ht
 ·exact ⟨p,hp,h2,h3.1,h3.2⟩
theorem Ok {w h root:Int} {b:List Int} {v:Int} (h0:0≤v) (h1:v<(depths w h b root).length):rd (parents w h b root) v=par w h b (depths w h b root) v:=by
 obtain ⟨i,rfl⟩:=Int.eq_ofNat_of_zero_le h0
 rw [Y0 (by rw [Xw];omega)]
 simp [parents,pars]
section
variable {w h r:Int} {b:List Int} (hc:conn w h b) (hr:isN w h r)
include hc hr
theorem Fh:((parents w h b r).length:Int)=cnt w h:=by rw [Xw];exact (Wb ⟨hc.1,hr⟩).1
theorem Yd {v:Int} (hv:isN w h v):(v=r∧rd (parents w h b r) v=-1)∨∃p:Nat,p<4∧rd (parents w h b r) v=next w h v p∧link w h b (4*v+p)∧isN w h (next w h v p)∧rd (depths w h b r) (next w h v p)=rd (depths w h b r) v-1:=by
 have H:rootOk w h b r:=⟨hc.1,hr⟩
 have hl:=(Wb H).1
 have hv2:=hv.2
 rw [Ok hv.1 (by omega)]
 have h0:=Wi hc hr v hv
 by_cases h1:rd (depths w h b r) v=0
 ·refine .inl ⟨(Wh H).zero.2 v hv h1,?_⟩
  unfold par;rw [if_neg (by omega)]
 ·obtain ⟨p,hp,h2,h3,h4⟩:=Fc H hv (by omega)
  exact .inr ⟨p,hp,h2,h3,(Wd hp h3).2.1,h4⟩
theorem Ye {v:Int} (hv:isN w h v):anc (parents w h b r) v=v::(if rd (parents w h b r) v=-1 then [] else anc (parents w h b r) (rd (parents w h b r) v)):=by
 have:=Fh hc hr
 exact Jd (Tx ⟨hc.1,hr⟩) hv.1 (by have:=hv.2;omega)
theorem Uw:∀(n:Nat) {v:Int},isN w h v→rd (depths w h b r) v=n→r∈anc (parents w h b r) v:=by
 intro n
 induction n with
 | zero=>
  intro v hv h0
  rw [Ye hc hr hv]
  have:=(Wh ⟨hc.1,hr⟩).zero.2 v hv (by omega)
  simp [this]
 | succ n ih=>
  intro v hv h0
  rw [Ye hc hr hv]
  rcases Yd hc hr hv with ⟨h1,_⟩|⟨p,hp,h2,h3,h4,h5⟩
  ·simp [h1]
  ·rw [h2,if_neg (by have:=h4.1;omega)]
   exact List.mem_cons_of_mem _ (ih h4 (by omega))
theorem Ka:∀(n:Nat) {v:Int},isN w h v→rd (depths w h b r) v=n→∀(j:Nat) (hj:j+1<(anc (parents w h b r) v).length),isN w h (anc (parents w h b r) v)[j]∧isN w h (anc (parents w h b r) v)[j+1]∧
 ∃p:Nat,p<4∧next w h (anc (parents w h b r) v)[j] p=(anc (parents w h b r) v)[j+1]∧link w h b (4*(anc (parents w h b r) v)[j]+p):=by
 intro n
 induction n with
 | zero=>
  intro v hv h0 j hj
  have hroot:=(Wh ⟨hc.1,hr⟩).zero.2 v hv (by omega)
  have e:=Ye hc hr hv
  rcases Yd hc hr hv with ⟨_,h1⟩|⟨p,hp,h2,h3,h4,h5⟩
  ·rw [h1,if_pos rfl] at e;rw [e] at hj;simp at hj
  ·have:=Wi hc hr _ h4;omega
 | succ n ih=>
  intro v hv h0 j hj
  have e:=Ye hc hr hv
  rcases Yd hc hr hv with ⟨_,h1⟩|⟨p,hp,h2,h3,h4,h5⟩
  ·rw [h1,if_pos rfl] at e;rw [e] at hj;simp at hj
  ·rw [h2,if_neg (by have:=h4.1;omega)] at e
   have e2:=Ye hc hr h4
   cases j with
   | zero=>
    simp only [e]
    simp only [List.getElem_cons_zero,List.getElem_cons_succ]
    have e3:(anc (parents w h b r) (next w h v p))[0]'(by rw [e2];simp)=next w h v p:=by simp only [e2,List.getElem_cons_zero]
    rw [e3]
    exact ⟨hv,h4,p,hp,rfl,h3⟩
   | succ j=>
    simp only [e] at hj ⊢
    simp only [List.getElem_cons_succ]
    exact ih h4 (by omega) j (by simpa using hj)
theorem yp {a c:Int} (ha:isN w h a) (hcn:isN w h c) (hne:a≠c):∃p:Nat,p<4∧1<(treeNodes (parents w h b r) a c).length∧(treeNodes (parents w h b r) a c)[1]? = some (next w h a p)∧0≤next w h a p:=by
 have dn:=fun {v:Int} (hv:isN w h v)=>(Int.toNat_of_nonneg (Wi hc hr v hv)).symm
 have ra:=Uw hc hr _ ha (dn ha)
 have rc:=Uw hc hr _ hcn (dn hcn)
 have hcom:0≤common (parents w h b r) a c:=by
  unfold common
  cases hf:(anc (parents w h b r) a).find? (fun x=>decide (x∈anc (parents w h b r) c)) with
  | none=>rw [List.find?_eq_none] at hf;exact absurd (by simpa using rc) (hf r ra)
  | some u=>
   have:=Qa7 (List.mem_of_find?_eq_some hf)
   simpa using this.1
 obtain ⟨ma,mc⟩:=Ua hcom
 have ga:=Ka hc hr _ ha (dn ha)
 have gc:=Ka hc hr _ hcn (dn hcn)
 have ea:=Ye hc hr ha
 have ec:=Ye hc hr hcn
 unfold treeNodes
 rw [if_neg (by omega)]
 have ia:=List.idxOf_lt_length_iff.2 ma
 have ic:=List.idxOf_lt_length_iff.2 mc
 have va:(anc (parents w h b r) a)[(anc (parents w h b r) a).idxOf (common (parents w h b r) a c)]=common (parents w h b r) a c:=by
  have:=List.findIdx_getElem (p:=(· == common (parents w h b r) a c)) (xs:=anc (parents w h b r) a) (w:=ia)
  simpa using this
 have vc:(anc (parents w h b r) c)[(anc (parents w h b r) c).idxOf (common (parents w h b r) a c)]=common (parents w h b r) a c:=by
  have:=List.findIdx_getElem (p:=(· == common (parents w h b r) a c)) (xs:=anc (parents w h b r) c) (w:=ic)
  simpa using this
 generalize (anc (parents w h b r) a).idxOf (common (parents w h b r) a c)=ka at *
 generalize (anc (parents w h b r) c).idxOf (common (parents w h b r) a c)=kc at *
 have a0:(anc (parents w h b r) a)[0]'(by omega)=a:=by simp only [ea,List.getElem_cons_zero]
 have c0:(anc (parents w h b r) c)[0]'(by omega)=c:=by simp only [ec,List.getElem_cons_zero]
 by_cases hk:ka=0
 ·subst hk
  rw [a0] at va
  have hkc:kc≠0:=fun hh=>by subst hh;rw [c0] at vc;exact hne (va.trans vc.symm)
  obtain ⟨j,rfl⟩:∃j,kc=j+1:=⟨kc-1,by omega⟩
  obtain ⟨n1,n2,p,hp,hnx,hlk⟩:=gc j ic
  rw [vc,← va] at hnx
  obtain ⟨g1,g2,g3,_⟩:=geo hp n1 (by rw [hnx];exact ha.1)
  rw [hnx] at g1
  obtain ⟨q,hq⟩:=Int.eq_ofNat_of_zero_le g2
  rw [hq] at g1 g3
  refine ⟨q,by omega,by simp;omega,?_,by rw [g1];exact n1.1⟩
  rw [g1]
  have e1:((anc (parents w h b r) a).take (0+1))=[a]:=by rw [ea];rfl
  have e2:(anc (parents w h b r) c).take (j+1)=(anc (parents w h b r) c).take j++[(anc (parents w h b r) c)[j]]:=List.take_succ_eq_append_getElem (by omega)
  rw [e1,List.getElem?_append_right (by simp)]
  rw [e2,List.reverse_append];rfl
 ·obtain ⟨n1,n2,p,hp,hnx,hlk⟩:=ga 0 (by omega)
  rw [a0] at hnx
  refine ⟨p,hp,by simp;omega,?_,by rw [hnx];exact n2.1⟩
  rw [List.getElem?_append_left (by simp;omega),List.getElem?_take,if_pos (by omega),List.getElem?_eq_getElem (by omega),hnx]
end
end Go.Proofs.YtaldglgobgjeaaaGreat.V
set_option linter.all false
namespace Go.Proofs.YtaldglgobgjeaaaGreat.V
open Go Go.VM Go.Proofs
set_option maxRecDepth 10000
def key (g:GrD):Nat×Nat:=(g.1,g.2.1)
theorem N8 (x:NetD) (a:Nat):∀p,p≤5→((grTo x a p).1.map key).Nodup
 | 0,_=>by simp [grTo]
 | p+1,hp=>by
  have ih:=N8 x a p (by omega)
  obtain ⟨_,h2,_,_⟩:=Vo x a p (by omega)
  rw [Zb]
  unfold grStep
  generalize grTo x a p=st at *
  split
  ·rw [List.map_append]
   refine List.nodup_append.2 ⟨ih,by simp,fun y hy z hz e=>?_⟩
   obtain ⟨g,hg,rfl⟩:=List.mem_map.1 hy
   simp at hz
   have:=(h2 g hg).2.1
   rw [hz] at e
   unfold key at e
   simp only [Prod.mk.injEq] at e
   omega
  ·exact ih
theorem Yx (x:NetD):∀n,((allTo x n).map key).Nodup
 | 0=>by simp [allTo]
 | n+1=>by
  rw [Vy,List.map_append]
  refine List.nodup_append.2 ⟨Yx x n,N8 x n 5 (by omega),fun y hy z hz e=>?_⟩
  obtain ⟨g,hg,rfl⟩:=List.mem_map.1 hy
  obtain ⟨g',hg',rfl⟩:=List.mem_map.1 hz
  have h1:=((Zn x n).1 g hg).1
  have h2:=((Vo x n 5 (by omega)).at' g' hg').1
  unfold key at e
  simp only [Prod.mk.injEq] at e
  omega
theorem Ct {x:NetD} {a p c a' p' c':Nat} (h:has x.1.1 x.1.2.1 x.1.2.2 (4*(a:Int)+p)) (h':has x.1.1 x.1.2.1 x.1.2.2 (4*(a':Int)+p')) (hp:p<4) (hp':p'<4) (hc:c<2) (hc':c'<2)
 (ha:(a:Int)<cnt x.1.1 x.1.2.1) (ha':(a':Int)<cnt x.1.1 x.1.2.1) (e:tgt x a p c=tgt x a' p' c'):a=a'∧p=p':=by
 obtain ⟨u1,_,_⟩:=Ym (c:=c) h hp hc
 obtain ⟨v1,_,_⟩:=Ym (c:=c') h' hp' hc'
 obtain ⟨⟨n1,n2⟩,o1,o2⟩:=Sq (c:=c) h hp
 obtain ⟨⟨m1,m2⟩,q1,q2⟩:=Sq (c:=c') h' hp'
 obtain ⟨g1,_,_,_,g5⟩:=geo (w:=x.1.1) (h:=x.1.2.1) (a:=a) hp ⟨by omega,ha⟩ n1
 obtain ⟨k1,_,_,_,k5⟩:=geo (w:=x.1.1) (h:=x.1.2.1) (a:=a') hp' ⟨by omega,ha'⟩ m1
 have e1:next x.1.1 x.1.2.1 a p=next x.1.1 x.1.2.1 a' p':=by omega
 have e2:opp (p:Int)=opp (p':Int):=by omega
 rw [e1,e2] at g1
 rw [e2] at g5
 constructor<;>omega
theorem yz (x:NetD):(allN x).Pairwise fun g g'=>g.2.1≠4→g'.2.1≠4→tgt x g.1 g.2.1 (g.2.2%2)≠tgt x g'.1 g'.2.1 (g'.2.2%2):=by
 have hk:(allN x).Pairwise fun g g'=>key g≠key g':=by
  have:=Yx x (cnt x.1.1 x.1.2.1).toNat
  exact List.pairwise_map.1 this
 refine hk.imp_of_mem fun {g g'} hg hg' hne h4 h4' e=>hne ?_
 obtain ⟨a1,a2,a3,a4⟩:=Yl hg
 obtain ⟨b1,b2,b3,b4⟩:=Yl hg'
 obtain ⟨hh,_⟩:=a4.2.1.resolve_left h4
 obtain ⟨hh',_⟩:=b4.2.1.resolve_left h4'
 obtain ⟨e1,e2⟩:=Ct hh hh' (by omega) (by omega) (by omega) (by omega) a1 b1 e
 unfold key;rw [e1,e2]
def gets (x:NetD) (M:List GrD) (j:Nat):Prop:=∃g∈M,g.2.1≠4∧tgt x g.1 g.2.1 (g.2.2%2)=j
theorem ko (x:NetD) (s:SSD) (g:GrD) (j:Nat):((pushS x s g).getD j []).length≤(s.getD j []).length+1∧(¬(g.2.1≠4∧tgt x g.1 g.2.1 (g.2.2%2)=j)→(pushS x s g).getD j []=s.getD j []):=by
 unfold pushS
 split
 ·exact ⟨by omega,fun _=>rfl⟩
 ·rename_i h4
  by_cases e:tgt x g.1 g.2.1 (g.2.2%2)=j
  ·refine ⟨?_,fun k=>absurd ⟨h4,e⟩ k⟩
   rw [← e]
   by_cases hl:tgt x g.1 g.2.1 (g.2.2%2)<s.length
   ·rw [Wn _ hl];simp
   ·simp [upd,List.set_eq_of_length_le (Nat.le_of_not_lt hl)]
  ·rw [Qy _ e];exact ⟨by omega,fun _=>rfl⟩
theorem O4 (x:NetD):∀(M:List GrD) (s:SSD) (j:Nat),(M.Pairwise fun g g'=>g.2.1≠4→g'.2.1≠4→tgt x g.1 g.2.1 (g.2.2%2)≠tgt x g'.1 g'.2.1 (g'.2.2%2))→
 ((M.foldl (pushS x) s).getD j []).length≤(s.getD j []).length+1∧(¬gets x M j→(M.foldl (pushS x) s).getD j []=s.getD j [])
 | [],s,j,_=>⟨by simp,fun _=>rfl⟩
 | g::M,s,j,h=>by
  obtain ⟨h1,h2⟩:=List.pairwise_cons.1 h
  obtain ⟨i1,i2⟩:=O4 x M (pushS x s g) j h2
  obtain ⟨p1,p2⟩:=ko x s g j
  rw [List.foldl_cons]
  by_cases hg:g.2.1≠4∧tgt x g.1 g.2.1 (g.2.2%2)=j
  ·have hn:¬gets x M j:=fun ⟨g',hg',k1,k2⟩=>h1 g' hg' hg.1 k1 (hg.2.trans k2.symm)
   rw [i2 hn]
   exact ⟨p1,fun k=>absurd ⟨g,List.mem_cons_self ..,hg⟩ k⟩
  ·rw [p2 hg] at i1 i2
   exact ⟨i1,fun k=>i2 fun ⟨g',hg',kk⟩=>k ⟨g',List.mem_cons_of_mem _ hg',kk⟩⟩
theorem Bc (x:NetD):∀(M:List GrD) (s:SSD) (j:Nat),((M.foldl popS s).getD j []).length≤(s.getD j []).length
 | [],s,j=>Nat.le_refl _
 | g::M,s,j=>by
  refine Nat.le_trans (Bc x M (popS s g) j) ?_
  unfold popS
  by_cases e:frm g=j
  ·rw [← e]
   by_cases hl:frm g<s.length
   ·rw [Wn _ hl,List.length_drop];omega
   ·simp [upd,List.set_eq_of_length_le (Nat.le_of_not_lt hl)]
  ·rw [Qy _ e];exact Nat.le_refl _
theorem If (x:NetD):∀(E:List Nat) (s:SSD) (j:Nat),(E.Pairwise fun k k'=>entAt x k≠entAt x k')→
 ((E.foldl (entS x) s).getD j []).length≤(s.getD j []).length+1∧((¬∃k∈E,entAt x k=j)→(E.foldl (entS x) s).getD j []=s.getD j [])
 | [],s,j,_=>⟨by simp,fun _=>rfl⟩
 | k::E,s,j,h=>by
  obtain ⟨h1,h2⟩:=List.pairwise_cons.1 h
  obtain ⟨i1,i2⟩:=If x E (entS x s k) j h2
  rw [List.foldl_cons]
  by_cases hk:entAt x k=j
  ·have hn:¬∃k'∈E,entAt x k'=j:=fun ⟨k',hk',e⟩=>h1 k' hk' (hk.trans e.symm)
   rw [i2 hn]
   refine ⟨?_,fun h=>absurd ⟨k,List.mem_cons_self ..,hk⟩ h⟩
   unfold entS
   rw [← hk]
   by_cases hl:entAt x k<s.length
   ·rw [Wn _ hl];simp
   ·simp [upd,List.set_eq_of_length_le (Nat.le_of_not_lt hl)]
  ·have e:(entS x s k).getD j []=s.getD j []:=by unfold entS;exact Qy _ hk
   rw [e] at i1 i2
   exact ⟨i1,fun h=>i2 fun ⟨k',hk',kk⟩=>h ⟨k',List.mem_cons_of_mem _ hk',kk⟩⟩
theorem Dn {x:NetD} (h:runOk x):(enterN x).Pairwise fun k k'=>entAt x k≠entAt x k':=by
 have:=Vi x
 refine List.Pairwise.imp_of_mem (fun {k k'} hk hk' hne e=>hne ?_) this
 obtain ⟨_,a1,_⟩:=Xe hk
 obtain ⟨_,b1,_⟩:=Xe hk'
 obtain ⟨⟨_,c1⟩,e1,_⟩:=Sx h a1
 obtain ⟨⟨_,c2⟩,e2,_⟩:=Sx h b1
 unfold inR at c1 c2
 omega
theorem B8 {x:NetD} (h:runOk x) (hb:∀j,(x.2.2.1.getD j []).length≤3) (j:Nat):((stepN x).2.2.1.getD j []).length≤3:=by
 show (((enterN x).foldl (entS x) ((allN x).foldl (pushS x) ((allN x).foldl popS x.2.2.1))).getD j []).length≤3
 obtain ⟨e1,e2⟩:=If x (enterN x) ((allN x).foldl (pushS x) ((allN x).foldl popS x.2.2.1)) j (Dn h)
 obtain ⟨p1,p2⟩:=O4 x (allN x) ((allN x).foldl popS x.2.2.1) j (yz x)
 have q:=Bc x (allN x) x.2.2.1 j
 have b:=hb j
 by_cases hg:gets x (allN x) j
 ·obtain ⟨g,hg,h4,ht⟩:=hg
  obtain ⟨a1,a2,a3,a4⟩:=Yl hg
  obtain ⟨hh,hr⟩:=a4.2.1.resolve_left h4
  rw [ht] at hr
  obtain ⟨t1,t2,t3⟩:=Ym (c:=g.2.2%2) hh (by omega) (by omega)
  obtain ⟨⟨n1,n2⟩,o1,o2⟩:=Sq (c:=g.2.2%2) hh (by omega)
  rw [ht] at t1
  have hne:¬∃k∈enterN x,entAt x k=j:=fun ⟨k,hk,e⟩=>by
   obtain ⟨_,b1,_⟩:=Xe hk
   obtain ⟨⟨_,c1⟩,e3,_⟩:=Sx h b1
   unfold inR at c1
   omega
  rw [e2 hne];omega
 ·rw [p2 hg] at e1 e2
  by_cases hk:∃k∈enterN x,entAt x k=j
  ·obtain ⟨k,hk,e⟩:=hk
   have:=(Xe hk).2.2
   rw [e] at this
   omega
  ·rw [e2 hk];omega
theorem Fp {x:NetD} (h:netOk x) (ht:x.2.2.2.2.2.2.2<1000000):netOk (stepN x):=by
 have hr:=Rc h
 obtain ⟨r1,r2,r3,r4,r5⟩:=Of hr
 obtain ⟨h1,h2,h3,h4,h5,h6,h7⟩:=h
 have hb:∀j,(x.2.2.1.getD j []).length≤3:=fun j=>by
  by_cases hl:j<x.2.2.1.length
  ·exact (h3 j hl).1
  ·simp [List.getD_eq_getElem?_getD,List.getElem?_eq_none (Nat.le_of_not_lt hl)]
 refine ⟨r1,r2,fun i hi=>⟨B8 hr hb i,fun f hf=>(r3 i f hf).1,fun f hf=>(r3 i f hf).2⟩,fun l hl=>⟨?_,fun f hf=>?_⟩,fun o ho=>?_,r5,?_⟩
 ·exact An (L:=60) (enterN x) x.2.2.2.2.2.1 (fun l hl=>(h4 l hl).1) l hl
 ·obtain ⟨i,hi,rfl⟩:=List.getElem_of_mem hl
  exact r4 i f (by rw [List.getD_eq_getElem?_getD,List.getElem?_eq_getElem hi];exact hf)
 ·refine Xq (fun s:List Int=>∀o∈s,inR (-1) o 4) (allN x) x.2.2.2.1 h5 (fun s g hg hs o ho=>?_) o ho
  rcases List.mem_or_eq_of_mem_set ho with ho|rfl
  ·exact hs o ho
  ·have:=(Yl hg).2.2.1
   unfold inR;split<;>omega
 ·unfold inR at h7 ⊢
  show 0≤x.2.2.2.2.2.2.2+1∧x.2.2.2.2.2.2.2+1≤1000000
  omega
theorem Vn {x:NetD} (h:netOk x):∀k:Nat,x.2.2.2.2.2.2.2+k≤1000000→netOk (runN x k)
 | 0,_=>h
 | k+1,hk=>Fp (Vn h k (by omega)) (by rw [Uy];omega)
def still (x:NetD):Prop:=allN x=[]∧enterN x=[]
abbrev Key:=Int×Int×Int
def fkey (f:FlitD):Key:=(f.1,f.2.1,f.2.2.1)
def nx (f:FlitD):Option Key:=if f.2.2.2.2=true then none else some (fkey f)
def okf (s:Option Key) (f:FlitD):Prop:=(f.2.2.2.1=true∧s=none)∨(f.2.2.2.1=false∧s=some (fkey f))
def Str (s:Option Key):List FlitD→Option Key→Prop
 | [],s'=>s=s'
 | f::l,s'=>okf s f∧Str (nx f) l s'
theorem Str.app:∀{l m:List FlitD} {s t u:Option Key},Str s l t→Str t m u→Str s (l++m) u
 | [],m,s,t,u,h,k=>by obtain rfl:s=t:=h;exact k
 | f::l,m,s,t,u,h,k=>⟨h.1,Str.app h.2 k⟩
theorem Str.snoc {l:List FlitD} {s t:Option Key} {f:FlitD} (h:Str s l t) (k:okf t f):Str s (l++[f]) (nx f):=h.app ⟨k,rfl⟩
theorem Str.unsnoc:∀{l:List FlitD} {s u:Option Key} {f:FlitD},Str s (l++[f]) u→∃t,Str s l t∧okf t f∧u=nx f
 | [],s,u,f,h=>⟨s,rfl,h.1,h.2.symm⟩
 | g::l,s,u,f,h=>by
  obtain ⟨t,h1,h2,h3⟩:=Str.unsnoc (l:=l) h.2
  exact ⟨t,⟨h.1,h1⟩,h2,h3⟩
def isTail (f:FlitD):Bool:=f.2.2.2.2
def tailIds (l:List FlitD):List Int:=(l.filter isTail).map (·.1)
theorem Cs (l:List FlitD) (f:FlitD):∀i,i≤l.length→wpk (l++[f]) i=wpk l i
 | 0,_=>rfl
 | i+1,h=>by
  have ih:=Cs l f i (by omega)
  have hle:=(Ds l i).1
  have e:part (l++[f]) (wpk l i).2 i=part l (wpk l i).2 i:=by
   unfold part
   rw [List.drop_append_of_le_length (by omega),List.take_append_of_le_length (by rw [List.length_drop];omega)]
  have e2:(l++[f]).getD (wpk l i).2 flit0=l.getD (wpk l i).2 flit0:=by
   simp only [List.getD_eq_getElem?_getD]
   rw [List.getElem?_append_left (by omega)]
  unfold wpk
  rw [ih,e,e2]
def Open (k:Key) (l:List FlitD):Prop:=l≠[]∧∀i,i<l.length→l.getD i flit0=(k.1,k.2.1,k.2.2,decide ((i:Int)=0),false)
theorem Dr {k:Key} {l:List FlitD} {f:FlitD} (h:Open k l) (hf:f.2.2.2.1=false) (hk:fkey f=k):whole (l++[f])↔f.2.2.2.2=true:=by
 obtain ⟨h0,h1⟩:=h
 have hl:0<l.length:=List.length_pos_iff.2 h0
 have g0:(l++[f]).getD 0 flit0=l.getD 0 flit0:=by simp only [List.getD_eq_getElem?_getD];rw [List.getElem?_append_left hl]
 have gl:(l++[f]).getD l.length flit0=f:=by simp [List.getD_eq_getElem?_getD]
 obtain ⟨f1,f2,f3,f4,f5⟩:=f
 obtain ⟨k1,k2,k3⟩:=k
 simp [fkey] at hk hf
 obtain ⟨rfl,rfl,rfl⟩:=hk
 subst hf
 have q:=h1 0 hl
 constructor
 ·intro w
  have:=w.1 l.length (by simp)
  rw [gl] at this
  unfold wholeAt at this
  simp at this
  exact this.2.2.2.2
 ·intro e
  simp at e
  subst e
  refine ⟨fun i hi=>?_,by simp⟩
  simp at hi
  unfold wholeAt
  rw [g0,q]
  by_cases hi':i<l.length
  ·have e2:(l++[(f1,f2,f3,false,true)]).getD i flit0=l.getD i flit0:=by simp only [List.getD_eq_getElem?_getD];rw [List.getElem?_append_left hi']
   rw [e2,h1 i hi']
   simp;omega
  ·have e3:i=l.length:=by omega
   subst e3
   rw [gl]
   simp;omega
theorem Ak {k:Key} {l:List FlitD} {f:FlitD} (h:Open k l) (hf:f.2.2.2.1=false) (hk:fkey f=k) (ht:f.2.2.2.2=false):Open k (l++[f]):=by
 obtain ⟨h0,h1⟩:=h
 have hl:0<l.length:=List.length_pos_iff.2 h0
 have gl:(l++[f]).getD l.length flit0=f:=by simp [List.getD_eq_getElem?_getD]
 refine ⟨by simp,fun i hi=>?_⟩
 simp at hi
 by_cases hi':i<l.length
 ·have e2:(l++[f]).getD i flit0=l.getD i flit0:=by simp only [List.getD_eq_getElem?_getD];rw [List.getElem?_append_left hi']
  rw [e2,h1 i hi']
 ·have e3:i=l.length:=by omega
  subst e3
  rw [gl]
  obtain ⟨f1,f2,f3,f4,f5⟩:=f
  obtain ⟨k1,k2,k3⟩:=k
  simp [fkey] at hk hf ht
  obtain ⟨rfl,rfl,rfl⟩:=hk
  subst hf ht
  simp;omega
theorem xa {f:FlitD} (hf:f.2.2.2.1=true) (ht:f.2.2.2.2=false):Open (fkey f) [f]:=by
 obtain ⟨f1,f2,f3,f4,f5⟩:=f
 simp at hf ht
 subst hf ht
 refine ⟨by simp,fun i hi=>?_⟩
 simp at hi
 subst hi
 rfl
theorem qp {f:FlitD} (hf:f.2.2.2.1=true):whole [f]↔f.2.2.2.2=true:=by
 obtain ⟨f1,f2,f3,f4,f5⟩:=f
 simp at hf
 subst hf
 constructor
 ·intro w
  have:=w.1 0 (by simp)
  unfold wholeAt at this
  simp at this
  exact this
 ·intro e
  simp at e
  subst e
  refine ⟨fun i hi=>?_,by simp⟩
  simp at hi
  subst hi
  simp [wholeAt]
def WInv (l:List FlitD) (s:Option Key):Prop:=(wpk l l.length).1=tailIds l∧(s=none→(wpk l l.length).2=l.length)∧∀k,s=some k→Open k (l.drop (wpk l l.length).2)
theorem T6 (l:List FlitD) (f:FlitD):tailIds (l++[f])=if f.2.2.2.2=true then tailIds l++[f.1] else tailIds l:=by
 unfold tailIds isTail
 rw [List.filter_append,List.map_append]
 by_cases h:f.2.2.2.2=true<;>simp [h]
theorem xw {l:List FlitD} {s:Option Key} {f:FlitD} (h:WInv l s) (k:okf s f):WInv (l++[f]) (nx f):=by
 obtain ⟨h1,h2,h3⟩:=h
 have hle:=(Ds l l.length).1
 have ep:part (l++[f]) (wpk l l.length).2 l.length=l.drop (wpk l l.length).2++[f]:=by
  unfold part
  rw [List.drop_append_of_le_length hle]
  apply List.take_of_length_le
  simp;omega
 have e0:(l++[f]).length=l.length+1:=by simp
 have ew:wpk (l++[f]) (l++[f]).length=if whole (l.drop (wpk l l.length).2++[f]) then ((wpk l l.length).1++[((l++[f]).getD (wpk l l.length).2 flit0).1],l.length+1) else wpk l l.length:=by
  rw [e0]
  conv=>lhs;unfold wpk
  rw [Cs l f l.length (by omega),ep]
 have hid:(s=none→((l++[f]).getD (wpk l l.length).2 flit0).1=f.1)∧(∀k,s=some k→fkey f=k→((l++[f]).getD (wpk l l.length).2 flit0).1=f.1):=by
  refine ⟨fun e=>?_,fun k e ek=>?_⟩
  ·rw [h2 e];simp [List.getD_eq_getElem?_getD]
  ·have o:=h3 k e
   have hl:0<(l.drop (wpk l l.length).2).length:=List.length_pos_iff.2 o.1
   have:=o.2 0 hl
   simp only [List.getD_eq_getElem?_getD,List.getElem?_drop] at this
   rw [List.length_drop] at hl
   simp only [List.getD_eq_getElem?_getD]
   rw [List.getElem?_append_left (by omega)]
   rw [Nat.add_zero] at this
   rw [this]
   show k.1=f.1
   rw [← ek];rfl
 have hw:whole (l.drop (wpk l l.length).2++[f])↔f.2.2.2.2=true:=by
  rcases k with ⟨k1,k2⟩|⟨k1,k2⟩
  ·rw [h2 k2,List.drop_length];exact qp k1
  ·exact Dr (h3 _ k2) k1 rfl
 have hi:((l++[f]).getD (wpk l l.length).2 flit0).1=f.1:=by
  rcases k with ⟨k1,k2⟩|⟨k1,k2⟩
  ·exact hid.1 k2
  ·exact hid.2 _ k2 rfl
 unfold WInv
 rw [ew,T6]
 by_cases ht:f.2.2.2.2=true
 ·rw [if_pos (hw.2 ht),if_pos ht,hi,h1]
  unfold nx
  rw [if_pos ht]
  exact ⟨rfl,fun _=>by simp,fun k e=>by simp at e⟩
 ·rw [if_neg (fun e=>ht (hw.1 e)),if_neg ht,h1]
  have ht':f.2.2.2.2=false:=by simpa using ht
  unfold nx
  rw [if_neg ht]
  refine ⟨rfl,fun e=>by simp at e,fun k' e=>?_⟩
  obtain rfl:fkey f=k':=by simpa using e
  rw [List.drop_append_of_le_length hle]
  rcases k with ⟨k1,k2⟩|⟨k1,k2⟩
  ·rw [h2 k2,List.drop_length];exact xa k1 ht'
  ·exact Ak (h3 _ k2) k1 rfl ht'
theorem Gd {P:List FlitD→Prop} (h0:P []) (h1:∀l f,P l→P (l++[f])) (l:List FlitD):P l:=by
 rw [← List.reverse_reverse l]
 induction l.reverse with
 | nil=>exact h0
 | cons f m ih=>rw [List.reverse_cons];exact h1 _ _ ih
theorem winv (l:List FlitD):∀s,Str none l s→WInv l s:=by
 induction l using Gd with
 | h0=>intro s h;obtain rfl:none=s:=h;exact ⟨rfl,fun _=>rfl,fun k e=>by simp at e⟩
 | h1 l f ih=>
  intro s h
  obtain ⟨t,h1,h2,rfl⟩:=h.unsnoc
  exact xw (ih t h1) h2
theorem Gk (l:List FlitD):∀s,Str none l s→wholePk (trim l)=tailIds l:=by
 induction l using Gd with
 | h0=>intro s h;rfl
 | h1 l f ih=>
  intro s h
  obtain ⟨t,h1,h2,rfl⟩:=h.unsnoc
  rw [qh]
  by_cases ht:f.2.2.2.2=true
  ·rw [if_pos ht]
   obtain ⟨w1,w2,_⟩:=winv (l++[f]) _ h
   have:=w2 (by unfold nx;rw [if_pos ht])
   unfold wholePk
   rw [if_neg (by omega),w1]
  ·rw [if_neg ht,T6,if_neg ht]
   exact ih t h1
def tabC (x:NetD) (c:Nat):List Int:=if c=1 then x.2.1.2 else x.2.1.1
def pO (x:NetD) (a c:Nat) (t:Int):Int:=portOf x.1.1 x.1.2.1 (tabC x c) a t
def hasP (x:NetD) (a p:Nat):Prop:=has x.1.1 x.1.2.1 x.1.2.2 (4*(a:Int)+p)
def nC (x:NetD):Nat:=(cnt x.1.1 x.1.2.1).toNat
theorem Yj (x:NetD):(nC x:Int)=cnt x.1.1 x.1.2.1:=by have:=Qe x.1.1 x.1.2.1;unfold nC;omega
def inc (s:Option Key) (c:Nat):Option Key:=match s with
 | some k=>if k.2.2=(c:Int) then some k else none
 | none=>none
def setF (f:Nat→Option Key) (i:Nat) (v:Option Key):Nat→Option Key:=fun n=>if n=i then v else f n
theorem Xc (f:Nat→Option Key) (i:Nat) (v:Option Key):setF f i v i=v:=if_pos rfl
theorem Wx (f:Nat→Option Key) {i j:Nat} (v:Option Key) (h:j≠i):setF f i v j=f j:=if_neg h
structure Wf (x:NetD) (B:SSD) (O:List Int) (A S:SSD) (st fr sr:Nat→Option Key):Prop where
 o1:∀a p c,a<nC x→p<5→c<2→O.getD (outAt a p c) 0=-1→st (outAt a p c)=none
 o2:∀a p c (q:Nat),a<nC x→p<5→c<2→q<5→O.getD (outAt a p c) 0=(q:Int)→∃k:Key,st (outAt a p c)=some k∧fr (10*a+2*q+c)=some k∧pO x a c k.2.1=(p:Int)
 o3:∀a (q:Nat) c k,a<nC x→q<5→c<2→fr (10*a+2*q+c)=some k→∃p,p<5∧O.getD (outAt a p c) 0=(q:Int)
 w4:∀a p c,a<nC x→p<4→c<2→hasP x a p→Str (fr (tgt x a p c)) (B.getD (tgt x a p c) []) (st (outAt a p c))
 w5:∀k c,k<nC x→c<2→Str (fr (10*k+8+c)) (B.getD (10*k+8+c) []) (inc (sr k) c)
 w6:∀k,k<nC x→Str (sr k) (S.getD k []) none
 w7:∀t c:Nat,t<nC x→c<2→Str none ((A.getD t []).filter fun f=>f.2.2.1=(c:Int)) (st (outAt t 4 c))
def mvB (x:NetD) (B:SSD) (a p i:Nat) (f:FlitD):SSD:=if p=4 then upd B (10*a+i) (List.drop 1) else upd (upd B (10*a+i) (List.drop 1)) (tgt x a p (i%2)) (·++[f])
def mvA (A:SSD) (a p:Nat) (f:FlitD):SSD:=if p=4 then upd A a (·++[f]) else A
def mvO (O:List Int) (a p i:Nat) (f:FlitD):List Int:=O.set (outAt a p (i%2)) (if f.2.2.2.2 then -1 else ((i/2:Nat):Int))
theorem T1 {a p c a' p' c':Nat} (hp:p<5) (hp':p'<5) (hc:c<2) (hc':c'<2) (e:outAt a p c=outAt a' p' c'):a=a'∧p=p'∧c=c':=by
 unfold outAt at e;omega
theorem setO {O:List Int} {i j:Nat} {v:Int} (h:i<O.length):(O.set i v).getD j 0=if i=j then v else O.getD j 0:=by
 simp only [List.getD_eq_getElem?_getD,List.getElem?_set]
 split
 ·rename_i e;subst e;simp [h]
 ·rfl
theorem Y9 {x:NetD} {a p c:Nat} (h:hasP x a p) (hp:p<4) (hc:c<2):tgt x a p c<10*nC x∧tgt x a p c%2=c∧((tgt x a p c/10:Nat):Int)=next x.1.1 x.1.2.1 a p∧tgt x a p c%10<8:=by
 obtain ⟨h1,h2,h3⟩:=Ym (c:=c) h hp hc
 obtain ⟨_,h4,h5⟩:=Sq (c:=c) h hp
 have:=Yj x
 generalize next x.1.1 x.1.2.1 a p=N at *
 generalize opp p=Op at *
 omega
theorem Str.pop {s u:Option Key} {f:FlitD} {r:List FlitD} (h:Str s (f::r) u):okf s f∧Str (nx f) r u:=h
theorem Pe {s:Option Key} {f:FlitD} {k:Key} (h:okf s f) (e:s=some k):f.2.2.2.1=false∧k=fkey f:=by
 rcases h with ⟨_,h⟩|⟨h1,h⟩
 ·rw [h] at e;simp at e
 ·rw [h] at e;exact ⟨h1,by simpa using e.symm⟩
theorem Y1 {f:FlitD} {k:Key} (h:nx f=some k):f.2.2.2.2=false∧k=fkey f:=by
 unfold nx at h
 by_cases e:f.2.2.2.2=true
 ·rw [if_pos e] at h;simp at h
 ·rw [if_neg e] at h;exact ⟨by simpa using e,by simpa using h.symm⟩
theorem Ad {s:Option Key} {f:FlitD} (h:okf s f) (e:f.2.2.2.1=false):s=some (fkey f):=by
 rcases h with ⟨h1,_⟩|⟨_,h⟩
 ·rw [h1] at e;simp at e
 ·exact h
structure Can (x:NetD) (B:SSD) (O:List Int) (a p i:Nat) (f:FlitD) (r:List FlitD):Prop where
 ha:a<nC x
 hp:p<5
 hi:i<10
 hj:B.getD (10*a+i) []=f::r
 hd:f.2.2.2.1=true→pO x a (i%2) f.2.1=(p:Int)∧O.getD (outAt a p (i%2)) 0=-1
 bd:f.2.2.2.1=false→O.getD (outAt a p (i%2)) 0=((i/2:Nat):Int)
 room:p=4∨hasP x a p
theorem Wf.move {x:NetD} {B:SSD} {O:List Int} {A S:SSD} {st fr sr:Nat→Option Key} (w:Wf x B O A S st fr sr) (hl:B.length=10*nC x) (hO:O.length=10*nC x) (hA:A.length=nC x)
 (hc:allP (fun j f=>f.2.2.1=(j:Int)%2) B) {a p i:Nat} {f:FlitD} {r:List FlitD} (k:Can x B O a p i f r) (hs:∃u,Str (fr (10*a+i)) (f::r) u) :
 pO x a (i%2) f.2.1=(p:Int)∧Wf x (mvB x B a p i f) (mvO O a p i f) (mvA A a p f) S (setF st (outAt a p (i%2)) (nx f)) (setF fr (10*a+i) (nx f)) sr:=by
 obtain ⟨ha,hp,hi,hj,hd,bd,room⟩:=k
 obtain ⟨u,hu⟩:=hs
 have o0:=hu.pop.1
 have ei:10*a+2*(i/2)+i%2=10*a+i:=by omega
 have hij:10*a+i<B.length:=by omega
 have hoL:outAt a p (i%2)<O.length:=by unfold outAt;omega
 have hport:pO x a (i%2) f.2.1=(p:Int):=by
  cases e:f.2.2.2.1 with
  | true=>exact (hd e).1
  | false=>
   obtain ⟨k,_,k2,k3⟩:=w.o2 a p (i%2) (i/2) ha hp (by omega) (by omega) (bd e)
   rw [ei] at k2
   obtain ⟨_,rfl⟩:=Pe o0 k2
   exact k3
 have okst:okf (st (outAt a p (i%2))) f:=by
  cases e:f.2.2.2.1 with
  | true=>exact .inl ⟨e,w.o1 a p (i%2) ha hp (by omega) (hd e).2⟩
  | false=>
   obtain ⟨k,k1,k2,_⟩:=w.o2 a p (i%2) (i/2) ha hp (by omega) (by omega) (bd e)
   rw [ei] at k2
   obtain ⟨_,rfl⟩:=Pe o0 k2
   exact .inr ⟨e,k1⟩
 -- whose output leads from this input
 have only:∀p',p'<5→O.getD (outAt a p' (i%2)) 0=((i/2:Nat):Int)→p'=p:=fun p' hp' e=>by
  obtain ⟨k,_,k2,k3⟩:=w.o2 a p' (i%2) (i/2) ha hp' (by omega) (by omega) e
  rw [ei] at k2
  obtain ⟨_,rfl⟩:=Pe o0 k2
  have:(p':Int)=p:=k3.symm.trans hport
  omega
 have own:∀q:Nat,q<5→O.getD (outAt a p (i%2)) 0=(q:Int)→q=i/2:=fun q hq e=>by
  cases e2:f.2.2.2.1 with
  | true=>rw [(hd e2).2] at e;omega
  | false=>rw [bd e2] at e;omega
 have tl:f.2.2.2.2=true→nx f=none:=fun e=>by unfold nx;rw [if_pos e]
 have tn:f.2.2.2.2=false→nx f=some (fkey f):=fun e=>by unfold nx;rw [if_neg (by simp [e])]
 refine ⟨hport,?_⟩
 -- the streams after the pop
 have pops:∀j s,Str (fr j) (B.getD j []) s→Str (setF fr (10*a+i) (nx f) j) ((upd B (10*a+i) (List.drop 1)).getD j []) s:=fun j s h=>by
  by_cases e:j=10*a+i
  ·subst e
   rw [Xc,Wn _ hij,hj]
   rw [hj] at h
   exact h.pop.2
  ·rw [Wx _ _ e,Qy _ (fun h=>e h.symm)];exact h
 have same:∀j,(p=4∨j≠tgt x a p (i%2))→(mvB x B a p i f).getD j []=(upd B (10*a+i) (List.drop 1)).getD j []:=fun j h=>by
  unfold mvB
  split
  ·rfl
  ·rename_i hp4
   rw [Qy _ (fun e=>(h.resolve_left hp4) e.symm)]
 constructor
 ·intro a' p' c' h1 h2 h3 h4
  unfold mvO at h4
  rw [setO hoL] at h4
  by_cases e:outAt a p (i%2)=outAt a' p' c'
  ·rw [if_pos e] at h4
   rw [← e,Xc]
   by_cases ht:f.2.2.2.2=true
   ·exact tl ht
   ·rw [if_neg ht] at h4;omega
  ·rw [if_neg e] at h4
   rw [Wx _ _ (fun h=>e h.symm)]
   exact w.o1 a' p' c' h1 h2 h3 h4
 ·intro a' p' c' q h1 h2 h3 h4 h5
  unfold mvO at h5
  rw [setO hoL] at h5
  by_cases e:outAt a p (i%2)=outAt a' p' c'
  ·rw [if_pos e] at h5
   obtain ⟨rfl,rfl,rfl⟩:=T1 hp h2 (by omega) h3 e
   by_cases ht:f.2.2.2.2=true
   ·rw [if_pos ht] at h5;omega
   ·rw [if_neg ht] at h5
    have eq:q=i/2:=by omega
    subst eq
    rw [Xc,ei,Xc]
    exact ⟨fkey f,tn (by simpa using ht),tn (by simpa using ht),hport⟩
  ·rw [if_neg e] at h5
   rw [Wx _ _ (fun h=>e h.symm)]
   obtain ⟨k,k1,k2,k3⟩:=w.o2 a' p' c' q h1 h2 h3 h4 h5
   refine ⟨k,k1,?_,k3⟩
   rw [Wx _ _ ?_]
   ·exact k2
   ·intro ej
    have e1:a'=a:=by omega
    have e2:c'=i%2:=by omega
    have e3:q=i/2:=by omega
    subst e1 e2 e3
    exact e (by rw [only p' h2 h5])
 ·intro a' q c' k h1 h2 h3 h4
  by_cases ej:10*a'+2*q+c'=10*a+i
  ·have e1:a'=a:=by omega
   have e2:c'=i%2:=by omega
   have e3:q=i/2:=by omega
   subst e1 e2 e3
   rw [ej,Xc] at h4
   obtain ⟨ht,_⟩:=Y1 h4
   refine ⟨p,hp,?_⟩
   unfold mvO
   rw [setO hoL,if_pos rfl,if_neg (by simp [ht])]
  ·rw [Wx _ _ ej] at h4
   obtain ⟨p',k1,k2⟩:=w.o3 a' q c' k h1 h2 h3 h4
   refine ⟨p',k1,?_⟩
   unfold mvO
   rw [setO hoL,if_neg ?_]
   ·exact k2
   ·intro e
    obtain ⟨rfl,rfl,rfl⟩:=T1 hp k1 (by omega) h3 e
    have:=own q h2 k2
    omega
 ·intro a' p' c' h1 h2 h3 h4
  have:=pops _ _ (w.w4 a' p' c' h1 h2 h3 h4)
  by_cases e:outAt a p (i%2)=outAt a' p' c'
  ·obtain ⟨rfl,rfl,rfl⟩:=T1 hp (by omega) (by omega) h3 e
   rw [Xc]
   have hp4:¬p=4:=by omega
   unfold mvB
   rw [if_neg hp4]
   have ht:=(Y9 (c:=i%2) h4 h2 h3).1
   rw [Wn _ (by rw [Z8];omega)]
   exact this.snoc okst
  ·rw [Wx _ _ (fun h=>e h.symm)]
   rw [same]
   ·exact this
   ·by_cases hp4:p=4
    ·exact .inl hp4
    ·refine .inr fun et=>e ?_
     have nn:=Yj x
     obtain ⟨rfl,rfl⟩:=Ct h4 (room.resolve_left hp4) h2 (by omega) h3 (by omega) (by omega) (by omega) et
     have t1:=(Y9 (c:=c') h4 h2 h3).2.1
     have t2:=(Y9 (c:=i%2) h4 h2 (by omega)).2.1
     rw [et] at t1
     rw [t2] at t1
     rw [t1]
 ·intro k c h1 h2
  have:=pops _ _ (w.w5 k c h1 h2)
  rw [same]
  ·exact this
  ·by_cases hp4:p=4
   ·exact .inl hp4
   ·refine .inr fun et=>?_
    have:=(Y9 (c:=i%2) (room.resolve_left hp4) (by omega) (by omega)).2.2.2
    omega
 ·exact w.w6
 ·intro t c h1 h2
  have h7:=w.w7 t c h1 h2
  unfold mvA
  by_cases hp4:p=4
  ·rw [if_pos hp4]
   subst hp4
   by_cases ea:a=t
   ·subst ea
    rw [Wn _ (by omega),List.filter_append]
    have cl:=hc (10*a+i) f (by rw [hj];exact List.mem_cons_self ..)
    by_cases ec:i%2=c
    ·subst ec
     rw [Xc]
     have e1:List.filter (fun f:FlitD=>decide (f.2.2.1=((i%2:Nat):Int))) [f]=[f]:=by
      rw [List.filter_cons_of_pos (by simp;omega)];rfl
     rw [e1]
     exact h7.snoc okst
    ·have e1:List.filter (fun f:FlitD=>decide (f.2.2.1=(c:Int))) [f]=[]:=by
      rw [List.filter_cons_of_neg (by simp;omega)];rfl
     rw [e1,List.append_nil,Wx _ _ (fun e=>by unfold outAt at e;omega)]
     exact h7
   ·rw [Qy _ ea,Wx _ _ (fun e=>by unfold outAt at e;omega)]
    exact h7
  ·rw [if_neg hp4,Wx _ _ (fun e=>by unfold outAt at e;omega)]
   exact h7
theorem Wf.enter {x:NetD} {B:SSD} {O:List Int} {A S:SSD} {st fr sr:Nat→Option Key} (w:Wf x B O A S st fr sr) (hl:B.length=10*nC x) (hS:S.length=nC x) {k c:Nat} {f:FlitD} {r:List FlitD} (hk:k<nC x) (hc:c<2) (ec:f.2.2.1=(c:Int)) (hj:S.getD k []=f::r) :
 Wf x (upd B (10*k+8+c) (·++[f])) O A (upd S k (List.drop 1)) st fr (setF sr k (nx f)):=by
 have h6:=w.w6 k hk
 rw [hj] at h6
 obtain ⟨o0,h6'⟩:=h6.pop
 refine ⟨w.o1,w.o2,w.o3,fun a' p' c' h1 h2 h3 h4=>?_,fun k' c' h1 h2=>?_,fun k' h1=>?_,w.w7⟩
 ·rw [Qy _ (fun e=>by have:=(Y9 (c:=c') h4 h2 h3).2.2.2;omega)]
  exact w.w4 a' p' c' h1 h2 h3 h4
 ·have h5:=w.w5 k' c' h1 h2
  by_cases e:k'=k
  ·subst e
   rw [Xc]
   by_cases e2:c'=c
   ·subst e2
    rw [Wn _ (by omega)]
    have ok:okf (inc (sr k') c') f:=by
     rcases o0 with ⟨h,e⟩|⟨h,e⟩
     ·rw [e];exact .inl ⟨h,rfl⟩
     ·rw [e];refine .inr ⟨h,?_⟩
      show (if (fkey f).2.2=(c':Int) then some (fkey f) else none)=_
      rw [if_pos (show (fkey f).2.2=(c':Int) from ec)]
    have en:inc (nx f) c'=nx f:=by
     cases hn:nx f with
     | none=>rfl
     | some k0=>
      obtain ⟨_,rfl⟩:=Y1 hn
      show (if (fkey f).2.2=(c':Int) then some (fkey f) else none)=_
      rw [if_pos (show (fkey f).2.2=(c':Int) from ec)]
    rw [en]
    exact h5.snoc ok
   ·rw [Qy _ (by omega)]
    have hne:¬(fkey f).2.2=(c':Int):=fun e=>by have e:f.2.2.1=(c':Int):=e;omega
    have e0:inc (sr k') c'=none:=by
     rcases o0 with ⟨h,e⟩|⟨h,e⟩
     ·rw [e];rfl
     ·rw [e];exact if_neg hne
    have en:inc (nx f) c'=none:=by
     cases hn:nx f with
     | none=>rfl
     | some k0=>obtain ⟨_,rfl⟩:=Y1 hn;exact if_neg hne
    rw [en];rw [e0] at h5;exact h5
  ·rw [Wx _ _ e,Qy _ (by omega)];exact h5
 ·by_cases e:k'=k
  ·subst e
   rw [Xc,Wn _ (by omega),hj];exact h6'
  ·rw [Wx _ _ e,Qy _ (fun h=>e h.symm)];exact w.w6 k' h1
end Go.Proofs.YtaldglgobgjeaaaGreat.V
set_option linter.all false
namespace Go.Proofs.YtaldglgobgjeaaaGreat.V
open Go Go.VM Go.Proofs
set_option maxRecDepth 10000
variable {frz:Nat} {H:Heap}
theorem Xa {α:Type} {D:Fl α} {e:TypeId} {v:Value} {xs:List α} (h:Ow D e H v xs):VM.live H v:=by
 rcases h with ⟨rfl,_⟩|⟨id,off,r,rfl,h2,_⟩
 ·trivial
 ·show VM.look H ⟨id,off,some r.gen⟩≠none
  simp [VM.look,h2]
theorem Jj {hs:List Value} {k:Nat} (hk:k<hs.length) (a':Value):(hs.set k a').flatMap ids=(hs.take k).flatMap ids++(ids a'++(hs.drop (k+1)).flatMap ids):=by
 rw [List.set_eq_take_append_cons_drop,if_pos hk,List.flatMap_append,List.flatMap_cons]
theorem Qah {hs:List Value} {k:Nat} (hk:k<hs.length):hs.flatMap ids=(hs.take k).flatMap ids++(ids hs[k]++(hs.drop (k+1)).flatMap ids):=by
 have:=Jj hk hs[k]
 rwa [List.set_getElem_self] at this
theorem R9 {α:Type} {D:Fl α} {e oe:TypeId} {H H1:Heap} {v a':Value} {hs:List Value} {xss:List (List α)} {k:Nat} {ys:List α} {frz:Nat} {et:TypeId} {ag:Bool} (h:OwL D e oe H v hs xss) (nd:(idsL v hs).Nodup) (hk:k<hs.length)
 (c:Chg H H1 (ids hs[k])) (o:Ow D e H1 a' ys) (hi:∀i∈ids a',i∈ids hs[k]∨H.length≤i) (hf:∀i∈idsL v hs,frz≤i) (he:tsz Tryz.prog et=some (ag,1)) :
 ∃H2,vstore Tryz.prog frz H1 et a' (elp v k)=some H2∧OwL D e oe H2 v (hs.set k a') (xss.set k ys)∧Chg H H2 (idsL v hs)∧(idsL v (hs.set k a')).Nodup∧(∀i∈idsL v (hs.set k a'),i∈idsL v hs∨H.length≤i)∧H2.length=H1.length:=by
 have hlt:=h.lt
 have hfa:=Qah hk
 have hfs:=Jj hk a'
 unfold idsL at nd hf hlt ⊢
 rw [hfa] at nd hf hlt ⊢
 rw [hfs]
 obtain ⟨n1,n2,n3⟩:=List.nodup_append.1 nd
 obtain ⟨m1,m2,m3⟩:=List.nodup_append.1 n2
 obtain ⟨p1,p2,p3⟩:=List.nodup_append.1 m2
 have dv:∀i∈ids v,i∉ids hs[k]:=fun i hi hh=>n3 i hi i (List.mem_append_right _ (List.mem_append_left _ hh)) rfl
 have o1:Ow Fl.val oe H1 v hs:=h.1.chg c dv
 have q:VM.one a'=true∧a'.cells=#[a']:=⟨o.rd.one',o.rd.cells⟩
 obtain ⟨H2,s1,s2,s3,s4⟩:=o1.put1 (P:=Tryz.prog) (frz:=frz) rfl (et:=et) (ag:=ag) he (j:=k) (x:=a') (y:=a') hk q.2 q.1 rfl (fun i hi=>hf i (List.mem_append_left _ hi))
 have hlen:∀i,i<H.length→i<H1.length:=fun i hi=>Nat.lt_of_lt_of_le hi c.1
 have dva:∀i∈ids a',i∉ids v:=fun i hi' hh=>by
  rcases hi i hi' with g|g
  ·exact dv i hh g
  ·have:=hlt i (List.mem_append_left _ hh);omega
 refine ⟨H2,s1,⟨s2,by simpa using h.2.1,fun j b zs hb hz=>?_⟩,?_,?_,fun i hi'=>?_,s4⟩
 ·by_cases hjk:k=j
  ·subst hjk
   rw [List.getElem?_set_self hk] at hb
   have hkx:k<xss.length:=h.2.1▸hk
   rw [List.getElem?_set_self hkx] at hz
   cases hb;cases hz
   exact o.chg s3 dva
  ·rw [List.getElem?_set_ne hjk] at hb hz
   have hb':=h.2.2 j b zs hb hz
   have hfl:=T5 hs (by rw [hfa];exact n2) (fun e=>hjk e.symm) hb (List.getElem?_eq_getElem hk)
   refine (hb'.chg c hfl).chg s3 (fun i hi' hh=>?_)
   have hm:i∈hs.flatMap ids:=List.mem_flatMap.2 ⟨b,List.mem_of_getElem? hb,hi'⟩
   rw [hfa] at hm
   exact n3 i hh i hm rfl
 ·exact (c.mono (fun i hi=>List.mem_append_right _ (List.mem_append_right _ (List.mem_append_left _ hi)))).trans (s3.mono (fun i hi=>List.mem_append_left _ hi))
 ·refine List.nodup_append.2 ⟨n1,List.nodup_append.2 ⟨m1,List.nodup_append.2 ⟨Wk a',p2,fun x hx y hy e=>?_⟩,fun x hx y hy e=>?_⟩,fun x hx y hy e=>?_⟩
  ·subst e
   rcases hi x hx with g|g
   ·exact p3 x g x hy rfl
   ·have:=hlt x (List.mem_append_right _ (List.mem_append_right _ (List.mem_append_right _ hy)));omega
  ·subst e
   rcases List.mem_append.1 hy with hy|hy
   ·rcases hi x hy with g|g
    ·exact m3 x hx x (List.mem_append_left _ g) rfl
    ·have:=hlt x (List.mem_append_right _ (List.mem_append_left _ hx));omega
   ·exact m3 x hx x (List.mem_append_right _ hy) rfl
  ·subst e
   rcases List.mem_append.1 hy with hy|hy
   ·exact n3 x hx x (List.mem_append_left _ hy) rfl
   ·rcases List.mem_append.1 hy with hy|hy
    ·exact dva x hy hx
    ·exact n3 x hx x (List.mem_append_right _ (List.mem_append_right _ hy)) rfl
 ·rcases List.mem_append.1 hi' with hi'|hi'
  ·exact .inl (List.mem_append_left _ hi')
  rcases List.mem_append.1 hi' with hi'|hi'
  ·exact .inl (List.mem_append_right _ (List.mem_append_left _ hi'))
  rcases List.mem_append.1 hi' with hi'|hi'
  ·rcases hi i hi' with g|g
   ·exact .inl (List.mem_append_right _ (List.mem_append_right _ (List.mem_append_left _ g)))
   ·exact .inr g
  ·exact .inl (List.mem_append_right _ (List.mem_append_right _ (List.mem_append_right _ hi')))
def flitsOf (w h:Int) (p:PkD):List FlitD:=if packetOk w h p then (List.range p.2.2.2.2.toNat).map fun i:Nat=>(p.1,p.2.2.1,p.2.2.2.1,decide ((i:Int)=0),decide ((i:Int)=p.2.2.2.2-1)) else []
theorem qk (w h:Int) (p:PkD) :
 wp (vcall C frz 65 [.agg #[.int .i64 w,.int .i64 h],pkV p] H) (fun r H'=>Ow flF 144 H' r (flitsOf w h p)∧(∀i∈ids r,H.length≤i)∧Chg H H' []):=by
 rw [Qa (fn:=Tryz.f65) Tryz.func65 rfl (by kernel_rfl) rfl]
 have pk:=fun F H=>E4 (frz:=F) (H:=H) w h p
 obtain ⟨q1,q2,q3,q4,q5⟩:=p
 unfold pkV at pk ⊢
 simp only at pk
 have cG:Chg H (H++[⟨[.int .i64 w,.int .i64 h],0,25⟩,⟨[.int .i64 q1,.int .i64 q2,.int .i64 q3,.int .i64 q4,.int .i64 q5],0,73⟩,⟨[],0,144⟩]) []:=Chg.app _
 have o0:Ow flF 144 (H++[⟨[.int .i64 w,.int .i64 h],0,25⟩,⟨[.int .i64 q1,.int .i64 q2,.int .i64 q3,.int .i64 q4,.int .i64 q5],0,73⟩,⟨[],0,144⟩]) (.slice (some ⟨H.length+2,0,some 0⟩) 0 0) []:=Ow.new (D:=flF) (xs:=[]) (k:=2) rfl rfl rfl rfl
 simp [VM.look,pk]
 by_cases g:packetOk w h (q1,q2,q3,q4,q5)
 rotate_left
 ·have e:flitsOf w h (q1,q2,q3,q4,q5)=[]:=if_neg g
  rw [e]
  simp [g]
  first|exact ⟨o0,by simp,cG⟩|exact ⟨o0,by simp,cG.2⟩|exact ⟨o0,cG⟩
 obtain ⟨n,hn⟩:∃n:Nat,q5=n:=⟨q5.toNat,by have:=g.2.2.2.2.2;unfold inR at this;simp only at this;omega⟩
 have hn5:n≤5:=by have:=g.2.2.2.2.2;unfold inR at this;simp only at this;omega
 subst hn
 have hfl:flitsOf w h (q1,q2,q3,q4,(n:Int))=(List.range n).map fun i:Nat=>(q1,q3,q4,decide ((i:Int)=0),decide ((i:Int)=(n:Int)-1)):=by
  unfold flitsOf;rw [if_pos g];simp only [Int.toNat_natCast]
 simp [g,VM.look]
 refine Qg (fun m t H'=>∃(i:Nat) (out:Value),m=n-i∧i≤n∧t 3=.pointer (some ⟨H.length+1,0,some 0⟩)∧t 5=out∧t 14=.int .i64 (n:Int)∧t 15=.int .i64 i∧Chg H H' []∧H'[H.length]? = some ⟨[.int .i64 w,.int .i64 h],0,25⟩∧H'[H.length+1]? = some ⟨[.int .i64 q1,.int .i64 q2,.int .i64 q3,.int .i64 q4,.int .i64 (n:Int)],0,73⟩∧Ow flF 144 H' out ((List.range i).map fun i:Nat=>(q1,q3,q4,decide ((i:Int)=0),decide ((i:Int)=(n:Int)-1)))∧(∀j∈ids out,H.length+2≤j)) ?_ (n:=n)
  ⟨0,.slice (some ⟨H.length+2,0,some 0⟩) 0 0,rfl,by omega,by simp,by simp,by simp,by simp,cG,by simp,by simp,o0,by simp⟩
 rintro m t H' ⟨i,out,rfl,hi,t3,t5,t14,t15,ch,b0,b1,oo,no⟩ ih
 simp [t3,t5,t14,t15,VM.look,b0,b1]
 refine Qc ?_ ?_<;>intro g1
 ·
  have e5:=@w6 ((n:Int)-1) (by omega)
  obtain ⟨Bh,hBh⟩:∃B,B=decide ((i:Int)=0):=⟨_,rfl⟩
  obtain ⟨Bt,hBt⟩:∃B,B=decide ((i:Int)=(n:Int)-1):=⟨_,rfl⟩
  have z1:∀[Inhabited Unit],(decide (i=0))=Bh:=by intro _;rw [hBh];simp
  have z2:∀[Inhabited Unit],(decide ((i:Int)=(n:Int)-1))=Bt:=by intro _;rw [hBt]
  obtain ⟨r',H3,hap,o3,c3,n3⟩:=oo.push (P:=Tryz.prog) (frz:=H.length) (ty:=109) (a:=(q1,q3,q4,Bh,Bt)) (by simp) rfl (by simp;omega) (fun j hj=>by have:=no j hj;omega)
  simp only [Yu] at hap
  simp [-Qp,-Q6,t3,t5,t14,t15,VM.look,b0,b1,e5,z1,z2,hap]
  refine ih (n-(i+1)) _ _ ⟨i+1,r',rfl,by omega,by simp [t3],by simp,by simp [t14],?_,ch.trans' c3 (fun j hj=>.inr (by have:=no j hj;omega)),Qb b0 c3 (fun hh=>by have:=no _ hh;omega),Qb b1 c3 (fun hh=>by have:=no _ hh;omega),?_,fun j hj=>?_⟩ (by omega)
  ·simp [t15];rw [w64 (by omega) (by omega)]
  ·rw [List.range_succ,List.map_append,List.map_cons,List.map_nil,← hBh,← hBt];exact o3
  ·rcases n3 j hj with h1|h1
   ·exact no j h1
   ·have:=Qu b1;omega
 ·have:i=n:=by omega
  subst this
  simp [t3,t5,t14,t15]
  exact ⟨by rw [hfl];exact oo,fun j hj=>by have:=no j hj;omega,ch⟩
end Go.Proofs.YtaldglgobgjeaaaGreat.V
