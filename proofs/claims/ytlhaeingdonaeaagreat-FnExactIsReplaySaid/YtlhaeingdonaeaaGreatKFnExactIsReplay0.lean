/- Texts of a proof, joined. -/
import Derived.Test.YtlhaeingdonaeaaGreatProg
import Derived.KernelRfl
import Derived.Test.YtlhaeingdonaeaaGreatKM0
import Derived.Test.YtlhaeingdonaeaaGreatKM1
namespace Go.Proofs.YtlhaeingdonaeaaGreat.V
open Go Go.VM Go.Proofs
noncomputable def C:Ctx:={ P:=Tryz.prog,mode:=fun g=>if [15,16,17,40,41,48,49,51,80,85,86,87,93,94,96,150,151,154,174,178,199,209,228,243,248,249,250,251,252,253,255,256,263,270,272,273,274,281].contains g then 2 else if [8,9,10,11,24,25,28,30,31,32,34,36,46,47,56,61,63,67,68,69,70,72,73,75,91,92,99,100,101,106,108,109,110,111,114,115,116,117,119,120,121,125,126,127,128,131,136,138,139,140,142,144,145,146,155,157,158,159,160,164,169,172,175,179,180,182,183,184,189,196,203,204,205,210,217,218,220,224,231,233,238,244,259,283].contains g then 1 else 0,ext:=fun _=>none }
@[simp] theorem CP:C.P=Tryz.prog:=rfl
theorem drawn:DrawOk C:=Kb C (by kernel_rfl)
@[simp] theorem mode0:C.mode 0=0:=rfl
@[simp] theorem mode1:C.mode 1=0:=rfl
@[simp] theorem mode2:C.mode 2=0:=rfl
@[simp] theorem mode3:C.mode 3=0:=rfl
@[simp] theorem mode4:C.mode 4=0:=rfl
@[simp] theorem mode5:C.mode 5=0:=rfl
@[simp] theorem mode6:C.mode 6=0:=rfl
@[simp] theorem mode7:C.mode 7=0:=rfl
@[simp] theorem mode8:C.mode 8=1:=rfl
@[simp] theorem mode9:C.mode 9=1:=rfl
@[simp] theorem mode10:C.mode 10=1:=rfl
@[simp] theorem mode11:C.mode 11=1:=rfl
@[simp] theorem mode12:C.mode 12=0:=rfl
@[simp] theorem mode13:C.mode 13=0:=rfl
@[simp] theorem mode14:C.mode 14=0:=rfl
@[simp] theorem mode15:C.mode 15=2:=rfl
@[simp] theorem mode16:C.mode 16=2:=rfl
@[simp] theorem mode17:C.mode 17=2:=rfl
@[simp] theorem mode18:C.mode 18=0:=rfl
@[simp] theorem mode19:C.mode 19=0:=rfl
@[simp] theorem mode20:C.mode 20=0:=rfl
@[simp] theorem mode21:C.mode 21=0:=rfl
@[simp] theorem mode22:C.mode 22=0:=rfl
@[simp] theorem mode23:C.mode 23=0:=rfl
@[simp] theorem mode24:C.mode 24=1:=rfl
@[simp] theorem mode25:C.mode 25=1:=rfl
@[simp] theorem mode26:C.mode 26=0:=rfl
@[simp] theorem mode27:C.mode 27=0:=rfl
@[simp] theorem mode28:C.mode 28=1:=rfl
@[simp] theorem mode29:C.mode 29=0:=rfl
@[simp] theorem mode30:C.mode 30=1:=rfl
@[simp] theorem mode31:C.mode 31=1:=rfl
@[simp] theorem mode32:C.mode 32=1:=rfl
@[simp] theorem mode33:C.mode 33=0:=rfl
@[simp] theorem mode34:C.mode 34=1:=rfl
@[simp] theorem mode35:C.mode 35=0:=rfl
@[simp] theorem mode36:C.mode 36=1:=rfl
@[simp] theorem mode37:C.mode 37=0:=rfl
@[simp] theorem mode38:C.mode 38=0:=rfl
@[simp] theorem mode39:C.mode 39=0:=rfl
@[simp] theorem mode40:C.mode 40=2:=rfl
@[simp] theorem mode41:C.mode 41=2:=rfl
@[simp] theorem mode42:C.mode 42=0:=rfl
@[simp] theorem mode43:C.mode 43=0:=rfl
@[simp] theorem mode44:C.mode 44=0:=rfl
@[simp] theorem mode45:C.mode 45=0:=rfl
@[simp] theorem mode46:C.mode 46=1:=rfl
@[simp] theorem mode47:C.mode 47=1:=rfl
@[simp] theorem mode48:C.mode 48=2:=rfl
@[simp] theorem mode49:C.mode 49=2:=rfl
@[simp] theorem mode50:C.mode 50=0:=rfl
@[simp] theorem mode51:C.mode 51=2:=rfl
@[simp] theorem mode52:C.mode 52=0:=rfl
@[simp] theorem mode53:C.mode 53=0:=rfl
@[simp] theorem mode54:C.mode 54=0:=rfl
@[simp] theorem mode55:C.mode 55=0:=rfl
@[simp] theorem mode56:C.mode 56=1:=rfl
@[simp] theorem mode57:C.mode 57=0:=rfl
@[simp] theorem mode58:C.mode 58=0:=rfl
@[simp] theorem mode59:C.mode 59=0:=rfl
@[simp] theorem mode60:C.mode 60=0:=rfl
@[simp] theorem mode61:C.mode 61=1:=rfl
@[simp] theorem mode62:C.mode 62=0:=rfl
@[simp] theorem mode63:C.mode 63=1:=rfl
@[simp] theorem mode64:C.mode 64=0:=rfl
@[simp] theorem mode65:C.mode 65=0:=rfl
@[simp] theorem mode66:C.mode 66=0:=rfl
@[simp] theorem mode67:C.mode 67=1:=rfl
@[simp] theorem mode68:C.mode 68=1:=rfl
@[simp] theorem mode69:C.mode 69=1:=rfl
@[simp] theorem mode70:C.mode 70=1:=rfl
@[simp] theorem mode71:C.mode 71=0:=rfl
@[simp] theorem mode72:C.mode 72=1:=rfl
@[simp] theorem mode73:C.mode 73=1:=rfl
@[simp] theorem mode74:C.mode 74=0:=rfl
@[simp] theorem mode75:C.mode 75=1:=rfl
@[simp] theorem mode76:C.mode 76=0:=rfl
@[simp] theorem mode77:C.mode 77=0:=rfl
@[simp] theorem mode78:C.mode 78=0:=rfl
@[simp] theorem mode79:C.mode 79=0:=rfl
@[simp] theorem mode80:C.mode 80=2:=rfl
@[simp] theorem mode81:C.mode 81=0:=rfl
@[simp] theorem mode82:C.mode 82=0:=rfl
@[simp] theorem mode83:C.mode 83=0:=rfl
@[simp] theorem mode84:C.mode 84=0:=rfl
@[simp] theorem mode85:C.mode 85=2:=rfl
@[simp] theorem mode86:C.mode 86=2:=rfl
@[simp] theorem mode87:C.mode 87=2:=rfl
@[simp] theorem mode88:C.mode 88=0:=rfl
@[simp] theorem mode89:C.mode 89=0:=rfl
@[simp] theorem mode90:C.mode 90=0:=rfl
@[simp] theorem mode91:C.mode 91=1:=rfl
@[simp] theorem mode92:C.mode 92=1:=rfl
@[simp] theorem mode93:C.mode 93=2:=rfl
@[simp] theorem mode94:C.mode 94=2:=rfl
@[simp] theorem mode95:C.mode 95=0:=rfl
@[simp] theorem mode96:C.mode 96=2:=rfl
@[simp] theorem mode97:C.mode 97=0:=rfl
@[simp] theorem mode98:C.mode 98=0:=rfl
@[simp] theorem mode99:C.mode 99=1:=rfl
@[simp] theorem mode100:C.mode 100=1:=rfl
@[simp] theorem mode101:C.mode 101=1:=rfl
@[simp] theorem mode102:C.mode 102=0:=rfl
@[simp] theorem mode103:C.mode 103=0:=rfl
@[simp] theorem mode104:C.mode 104=0:=rfl
@[simp] theorem mode105:C.mode 105=0:=rfl
@[simp] theorem mode106:C.mode 106=1:=rfl
@[simp] theorem mode107:C.mode 107=0:=rfl
@[simp] theorem mode108:C.mode 108=1:=rfl
@[simp] theorem mode109:C.mode 109=1:=rfl
@[simp] theorem mode110:C.mode 110=1:=rfl
@[simp] theorem mode111:C.mode 111=1:=rfl
@[simp] theorem mode112:C.mode 112=0:=rfl
@[simp] theorem mode113:C.mode 113=0:=rfl
@[simp] theorem mode114:C.mode 114=1:=rfl
@[simp] theorem mode115:C.mode 115=1:=rfl
@[simp] theorem mode116:C.mode 116=1:=rfl
@[simp] theorem mode117:C.mode 117=1:=rfl
@[simp] theorem mode118:C.mode 118=0:=rfl
@[simp] theorem mode119:C.mode 119=1:=rfl
@[simp] theorem mode120:C.mode 120=1:=rfl
@[simp] theorem mode121:C.mode 121=1:=rfl
@[simp] theorem mode122:C.mode 122=0:=rfl
@[simp] theorem mode123:C.mode 123=0:=rfl
@[simp] theorem mode124:C.mode 124=0:=rfl
@[simp] theorem mode125:C.mode 125=1:=rfl
@[simp] theorem mode126:C.mode 126=1:=rfl
@[simp] theorem mode127:C.mode 127=1:=rfl
@[simp] theorem mode128:C.mode 128=1:=rfl
@[simp] theorem mode129:C.mode 129=0:=rfl
@[simp] theorem mode130:C.mode 130=0:=rfl
@[simp] theorem mode131:C.mode 131=1:=rfl
@[simp] theorem mode132:C.mode 132=0:=rfl
@[simp] theorem mode133:C.mode 133=0:=rfl
@[simp] theorem mode134:C.mode 134=0:=rfl
@[simp] theorem mode135:C.mode 135=0:=rfl
@[simp] theorem mode136:C.mode 136=1:=rfl
@[simp] theorem mode137:C.mode 137=0:=rfl
@[simp] theorem mode138:C.mode 138=1:=rfl
@[simp] theorem mode139:C.mode 139=1:=rfl
@[simp] theorem mode140:C.mode 140=1:=rfl
@[simp] theorem mode141:C.mode 141=0:=rfl
@[simp] theorem mode142:C.mode 142=1:=rfl
@[simp] theorem mode143:C.mode 143=0:=rfl
@[simp] theorem mode144:C.mode 144=1:=rfl
@[simp] theorem mode145:C.mode 145=1:=rfl
@[simp] theorem mode146:C.mode 146=1:=rfl
@[simp] theorem mode147:C.mode 147=0:=rfl
@[simp] theorem mode148:C.mode 148=0:=rfl
@[simp] theorem mode149:C.mode 149=0:=rfl
@[simp] theorem mode150:C.mode 150=2:=rfl
@[simp] theorem mode151:C.mode 151=2:=rfl
@[simp] theorem mode152:C.mode 152=0:=rfl
@[simp] theorem mode153:C.mode 153=0:=rfl
@[simp] theorem mode154:C.mode 154=2:=rfl
@[simp] theorem mode155:C.mode 155=1:=rfl
@[simp] theorem mode156:C.mode 156=0:=rfl
@[simp] theorem mode157:C.mode 157=1:=rfl
@[simp] theorem mode158:C.mode 158=1:=rfl
@[simp] theorem mode159:C.mode 159=1:=rfl
@[simp] theorem mode160:C.mode 160=1:=rfl
@[simp] theorem mode161:C.mode 161=0:=rfl
@[simp] theorem mode162:C.mode 162=0:=rfl
@[simp] theorem mode163:C.mode 163=0:=rfl
@[simp] theorem mode164:C.mode 164=1:=rfl
@[simp] theorem mode165:C.mode 165=0:=rfl
@[simp] theorem mode166:C.mode 166=0:=rfl
@[simp] theorem mode167:C.mode 167=0:=rfl
@[simp] theorem mode168:C.mode 168=0:=rfl
@[simp] theorem mode169:C.mode 169=1:=rfl
@[simp] theorem mode170:C.mode 170=0:=rfl
@[simp] theorem mode171:C.mode 171=0:=rfl
@[simp] theorem mode172:C.mode 172=1:=rfl
@[simp] theorem mode173:C.mode 173=0:=rfl
@[simp] theorem mode174:C.mode 174=2:=rfl
@[simp] theorem mode175:C.mode 175=1:=rfl
@[simp] theorem mode176:C.mode 176=0:=rfl
@[simp] theorem mode177:C.mode 177=0:=rfl
@[simp] theorem mode178:C.mode 178=2:=rfl
@[simp] theorem mode179:C.mode 179=1:=rfl
@[simp] theorem mode180:C.mode 180=1:=rfl
@[simp] theorem mode181:C.mode 181=0:=rfl
@[simp] theorem mode182:C.mode 182=1:=rfl
@[simp] theorem mode183:C.mode 183=1:=rfl
@[simp] theorem mode184:C.mode 184=1:=rfl
@[simp] theorem mode185:C.mode 185=0:=rfl
@[simp] theorem mode186:C.mode 186=0:=rfl
@[simp] theorem mode187:C.mode 187=0:=rfl
@[simp] theorem mode188:C.mode 188=0:=rfl
@[simp] theorem mode189:C.mode 189=1:=rfl
@[simp] theorem mode190:C.mode 190=0:=rfl
@[simp] theorem mode191:C.mode 191=0:=rfl
@[simp] theorem mode192:C.mode 192=0:=rfl
@[simp] theorem mode193:C.mode 193=0:=rfl
@[simp] theorem mode194:C.mode 194=0:=rfl
@[simp] theorem mode195:C.mode 195=0:=rfl
@[simp] theorem mode196:C.mode 196=1:=rfl
@[simp] theorem mode197:C.mode 197=0:=rfl
@[simp] theorem mode198:C.mode 198=0:=rfl
@[simp] theorem mode199:C.mode 199=2:=rfl
@[simp] theorem mode200:C.mode 200=0:=rfl
@[simp] theorem mode201:C.mode 201=0:=rfl
@[simp] theorem mode202:C.mode 202=0:=rfl
@[simp] theorem mode203:C.mode 203=1:=rfl
@[simp] theorem mode204:C.mode 204=1:=rfl
@[simp] theorem mode205:C.mode 205=1:=rfl
@[simp] theorem mode206:C.mode 206=0:=rfl
@[simp] theorem mode207:C.mode 207=0:=rfl
@[simp] theorem mode208:C.mode 208=0:=rfl
@[simp] theorem mode209:C.mode 209=2:=rfl
@[simp] theorem mode210:C.mode 210=1:=rfl
@[simp] theorem mode211:C.mode 211=0:=rfl
@[simp] theorem mode212:C.mode 212=0:=rfl
@[simp] theorem mode213:C.mode 213=0:=rfl
@[simp] theorem mode214:C.mode 214=0:=rfl
@[simp] theorem mode215:C.mode 215=0:=rfl
@[simp] theorem mode216:C.mode 216=0:=rfl
@[simp] theorem mode217:C.mode 217=1:=rfl
@[simp] theorem mode218:C.mode 218=1:=rfl
@[simp] theorem mode219:C.mode 219=0:=rfl
@[simp] theorem mode220:C.mode 220=1:=rfl
@[simp] theorem mode221:C.mode 221=0:=rfl
@[simp] theorem mode222:C.mode 222=0:=rfl
@[simp] theorem mode223:C.mode 223=0:=rfl
@[simp] theorem mode224:C.mode 224=1:=rfl
@[simp] theorem mode225:C.mode 225=0:=rfl
@[simp] theorem mode226:C.mode 226=0:=rfl
@[simp] theorem mode227:C.mode 227=0:=rfl
@[simp] theorem mode228:C.mode 228=2:=rfl
@[simp] theorem mode229:C.mode 229=0:=rfl
@[simp] theorem mode230:C.mode 230=0:=rfl
@[simp] theorem mode231:C.mode 231=1:=rfl
@[simp] theorem mode232:C.mode 232=0:=rfl
@[simp] theorem mode233:C.mode 233=1:=rfl
@[simp] theorem mode234:C.mode 234=0:=rfl
@[simp] theorem mode235:C.mode 235=0:=rfl
@[simp] theorem mode236:C.mode 236=0:=rfl
@[simp] theorem mode237:C.mode 237=0:=rfl
@[simp] theorem mode238:C.mode 238=1:=rfl
@[simp] theorem mode239:C.mode 239=0:=rfl
@[simp] theorem mode240:C.mode 240=0:=rfl
@[simp] theorem mode241:C.mode 241=0:=rfl
@[simp] theorem mode242:C.mode 242=0:=rfl
@[simp] theorem mode243:C.mode 243=2:=rfl
@[simp] theorem mode244:C.mode 244=1:=rfl
@[simp] theorem mode245:C.mode 245=0:=rfl
@[simp] theorem mode246:C.mode 246=0:=rfl
@[simp] theorem mode247:C.mode 247=0:=rfl
@[simp] theorem mode248:C.mode 248=2:=rfl
@[simp] theorem mode249:C.mode 249=2:=rfl
@[simp] theorem mode250:C.mode 250=2:=rfl
@[simp] theorem mode251:C.mode 251=2:=rfl
@[simp] theorem mode252:C.mode 252=2:=rfl
@[simp] theorem mode253:C.mode 253=2:=rfl
@[simp] theorem mode254:C.mode 254=0:=rfl
@[simp] theorem mode255:C.mode 255=2:=rfl
@[simp] theorem mode256:C.mode 256=2:=rfl
@[simp] theorem mode257:C.mode 257=0:=rfl
@[simp] theorem mode258:C.mode 258=0:=rfl
@[simp] theorem mode259:C.mode 259=1:=rfl
@[simp] theorem mode260:C.mode 260=0:=rfl
@[simp] theorem mode261:C.mode 261=0:=rfl
@[simp] theorem mode262:C.mode 262=0:=rfl
@[simp] theorem mode263:C.mode 263=2:=rfl
@[simp] theorem mode264:C.mode 264=0:=rfl
@[simp] theorem mode265:C.mode 265=0:=rfl
@[simp] theorem mode266:C.mode 266=0:=rfl
@[simp] theorem mode267:C.mode 267=0:=rfl
@[simp] theorem mode268:C.mode 268=0:=rfl
@[simp] theorem mode269:C.mode 269=0:=rfl
@[simp] theorem mode270:C.mode 270=2:=rfl
@[simp] theorem mode271:C.mode 271=0:=rfl
@[simp] theorem mode272:C.mode 272=2:=rfl
@[simp] theorem mode273:C.mode 273=2:=rfl
@[simp] theorem mode274:C.mode 274=2:=rfl
@[simp] theorem mode275:C.mode 275=0:=rfl
@[simp] theorem mode276:C.mode 276=0:=rfl
@[simp] theorem mode277:C.mode 277=0:=rfl
@[simp] theorem mode278:C.mode 278=0:=rfl
@[simp] theorem mode279:C.mode 279=0:=rfl
@[simp] theorem mode280:C.mode 280=0:=rfl
@[simp] theorem mode281:C.mode 281=2:=rfl
@[simp] theorem mode282:C.mode 282=0:=rfl
@[simp] theorem mode283:C.mode 283=1:=rfl
@[simp] theorem mode284:C.mode 284=0:=rfl
@[simp] theorem mode285:C.mode 285=0:=rfl
@[simp] theorem mode286:C.mode 286=0:=rfl
@[simp] theorem mode287:C.mode 287=0:=rfl
@[simp] theorem mode288:C.mode 288=0:=rfl
@[simp] theorem mode289:C.mode 289=0:=rfl
@[simp] theorem mode290:C.mode 290=0:=rfl
@[simp] theorem mode291:C.mode 291=0:=rfl
@[simp] theorem mode292:C.mode 292=0:=rfl
@[simp] theorem mode293:C.mode 293=0:=rfl
@[simp] theorem mode294:C.mode 294=0:=rfl
@[simp] theorem mode295:C.mode 295=0:=rfl
@[simp] theorem mode296:C.mode 296=0:=rfl
@[simp] theorem mode297:C.mode 297=0:=rfl
@[simp] theorem mode298:C.mode 298=0:=rfl
@[simp] theorem mode299:C.mode 299=0:=rfl
@[simp] theorem mode300:C.mode 300=0:=rfl
@[simp] theorem mode301:C.mode 301=0:=rfl
@[simp] theorem tsz3:tsz Tryz.prog 3=some (false,1):=by kernel_rfl
@[simp] theorem tzero3:tzero Tryz.prog 3=some [.int .i64 0]:=by kernel_rfl
@[simp] theorem tsz4:tsz Tryz.prog 4=some (false,1):=by kernel_rfl
@[simp] theorem tzero4:tzero Tryz.prog 4=some [.bool false]:=by kernel_rfl
@[simp] theorem und9:Tryz.prog.underlying 9=some .string:=by kernel_rfl
@[simp] theorem tsz23:tsz Tryz.prog 23=some (true,2):=by kernel_rfl
@[simp] theorem Qfk:finfo Tryz.prog 23 0=some (0,false,1):=by kernel_rfl
@[simp] theorem Qfq:finfo Tryz.prog 23 1=some (1,false,1):=by kernel_rfl
@[simp] theorem tsz24:tsz Tryz.prog 24=some (false,1):=by kernel_rfl
@[simp] theorem tzero24:tzero Tryz.prog 24=some [.slice none 0 0]:=by kernel_rfl
@[simp] theorem eltp24:eltp Tryz.prog 24=some (3,1):=by kernel_rfl
@[simp] theorem isSl24:isSl Tryz.prog 24=true:=by kernel_rfl
@[simp] theorem tsz26:tsz Tryz.prog 26=some (true,3):=by kernel_rfl
@[simp] theorem Qfz:finfo Tryz.prog 26 0=some (0,true,2):=by kernel_rfl
@[simp] theorem Qe9:finfo Tryz.prog 26 1=some (2,false,1):=by kernel_rfl
@[simp] theorem tsz28:tsz Tryz.prog 28=some (true,1):=by kernel_rfl
@[simp] theorem Qfh:finfo Tryz.prog 28 0=some (0,false,1):=by kernel_rfl
@[simp] theorem tsz30:tsz Tryz.prog 30=some (true,2):=by kernel_rfl
@[simp] theorem Qfr:finfo Tryz.prog 30 0=some (0,true,1):=by kernel_rfl
@[simp] theorem Qfy:finfo Tryz.prog 30 1=some (1,true,1):=by kernel_rfl
@[simp] theorem tsz31:tsz Tryz.prog 31=some (false,1):=by kernel_rfl
@[simp] theorem eltp31:eltp Tryz.prog 31=some (139,1):=by kernel_rfl
@[simp] theorem isSl31:isSl Tryz.prog 31=true:=by kernel_rfl
@[simp] theorem tsz33:tsz Tryz.prog 33=some (true,11):=by kernel_rfl
@[simp] theorem Qe7:finfo Tryz.prog 33 0=some (0,true,3):=by kernel_rfl
@[simp] theorem Qew:finfo Tryz.prog 33 1=some (3,true,2):=by kernel_rfl
@[simp] theorem Qgo:finfo Tryz.prog 33 2=some (5,false,1):=by kernel_rfl
@[simp] theorem Qeu:finfo Tryz.prog 33 3=some (6,false,1):=by kernel_rfl
@[simp] theorem Qfb:finfo Tryz.prog 33 4=some (7,false,1):=by kernel_rfl
@[simp] theorem Qge:finfo Tryz.prog 33 5=some (8,false,1):=by kernel_rfl
@[simp] theorem Qf6:finfo Tryz.prog 33 6=some (9,false,1):=by kernel_rfl
@[simp] theorem Qfg:finfo Tryz.prog 33 7=some (10,false,1):=by kernel_rfl
@[simp] theorem tsz34:tsz Tryz.prog 34=some (false,1):=by kernel_rfl
@[simp] theorem eltp34:eltp Tryz.prog 34=some (120,5):=by kernel_rfl
@[simp] theorem isSl34:isSl Tryz.prog 34=true:=by kernel_rfl
@[simp] theorem tsz36:tsz Tryz.prog 36=some (true,12):=by kernel_rfl
@[simp] theorem Qgc:finfo Tryz.prog 36 0=some (0,true,11):=by kernel_rfl
@[simp] theorem Qf5:finfo Tryz.prog 36 1=some (11,false,1):=by kernel_rfl
@[simp] theorem eltp37:eltp Tryz.prog 37=some (83,5):=by kernel_rfl
@[simp] theorem isSl37:isSl Tryz.prog 37=true:=by kernel_rfl
@[simp] theorem tsz40:tsz Tryz.prog 40=some (true,2):=by kernel_rfl
@[simp] theorem tzero40:tzero Tryz.prog 40=some [.int .i64 0,.int .i64 0]:=by kernel_rfl
@[simp] theorem Qfe:finfo Tryz.prog 40 0=some (0,false,1):=by kernel_rfl
@[simp] theorem Qex:finfo Tryz.prog 40 1=some (1,false,1):=by kernel_rfl
@[simp] theorem tsz42:tsz Tryz.prog 42=some (true,3):=by kernel_rfl
@[simp] theorem tzero42:tzero Tryz.prog 42=some [.int .i64 0,.int .i64 0,.slice none 0 0]:=by kernel_rfl
@[simp] theorem Qfi:finfo Tryz.prog 42 0=some (0,true,2):=by kernel_rfl
@[simp] theorem Qf7:finfo Tryz.prog 42 1=some (2,false,1):=by kernel_rfl
@[simp] theorem bplaces42:bplaces Tryz.prog 42=some [(0,2),(2,1)]:=by kernel_rfl
@[simp] theorem tsz43:tsz Tryz.prog 43=some (true,1):=by kernel_rfl
@[simp] theorem tzero43:tzero Tryz.prog 43=some [.slice none 0 0]:=by kernel_rfl
@[simp] theorem Qe6:finfo Tryz.prog 43 0=some (0,false,1):=by kernel_rfl
@[simp] theorem bplaces43:bplaces Tryz.prog 43=some [(0,1)]:=by kernel_rfl
@[simp] theorem tsz45:tsz Tryz.prog 45=some (true,2):=by kernel_rfl
@[simp] theorem tzero45:tzero Tryz.prog 45=some [.slice none 0 0,.slice none 0 0]:=by kernel_rfl
@[simp] theorem Qgg:finfo Tryz.prog 45 0=some (0,true,1):=by kernel_rfl
@[simp] theorem Qf0:finfo Tryz.prog 45 1=some (1,true,1):=by kernel_rfl
@[simp] theorem bplaces45:bplaces Tryz.prog 45=some [(0,1),(1,1)]:=by kernel_rfl
@[simp] theorem tsz46:tsz Tryz.prog 46=some (false,1):=by kernel_rfl
@[simp] theorem eltp46:eltp Tryz.prog 46=some (145,1):=by kernel_rfl
@[simp] theorem isSl46:isSl Tryz.prog 46=true:=by kernel_rfl
@[simp] theorem tsz48:tsz Tryz.prog 48=some (true,11):=by kernel_rfl
@[simp] theorem tzero48:tzero Tryz.prog 48=some [.int .i64 0,.int .i64 0,.slice none 0 0,.slice none 0 0,.slice none 0 0,.slice none 0 0,.slice none 0 0,.slice none 0 0,.slice none 0 0,.slice none 0 0,.int .i64 0]:=by kernel_rfl
@[simp] theorem Qgd:finfo Tryz.prog 48 0=some (0,true,3):=by kernel_rfl
@[simp] theorem Qfl:finfo Tryz.prog 48 1=some (3,true,2):=by kernel_rfl
@[simp] theorem Qe8:finfo Tryz.prog 48 2=some (5,false,1):=by kernel_rfl
@[simp] theorem Qgl:finfo Tryz.prog 48 3=some (6,false,1):=by kernel_rfl
@[simp] theorem Qf8:finfo Tryz.prog 48 4=some (7,false,1):=by kernel_rfl
@[simp] theorem Qgk:finfo Tryz.prog 48 5=some (8,false,1):=by kernel_rfl
@[simp] theorem Qf3:finfo Tryz.prog 48 6=some (9,false,1):=by kernel_rfl
@[simp] theorem Qfu:finfo Tryz.prog 48 7=some (10,false,1):=by kernel_rfl
@[simp] theorem bplaces48:bplaces Tryz.prog 48=some [(0,3),(3,2),(5,1),(6,1),(7,1),(8,1),(9,1),(10,1)]:=by kernel_rfl
@[simp] theorem tsz49:tsz Tryz.prog 49=some (false,1):=by kernel_rfl
@[simp] theorem eltp49:eltp Tryz.prog 49=some (104,5):=by kernel_rfl
@[simp] theorem isSl49:isSl Tryz.prog 49=true:=by kernel_rfl
@[simp] theorem tsz51:tsz Tryz.prog 51=some (true,12):=by kernel_rfl
@[simp] theorem tzero51:tzero Tryz.prog 51=some [.int .i64 0,.int .i64 0,.slice none 0 0,.slice none 0 0,.slice none 0 0,.slice none 0 0,.slice none 0 0,.slice none 0 0,.slice none 0 0,.slice none 0 0,.int .i64 0,.slice none 0 0]:=by kernel_rfl
@[simp] theorem Qe0:finfo Tryz.prog 51 0=some (0,true,11):=by kernel_rfl
@[simp] theorem Qfo:finfo Tryz.prog 51 1=some (11,false,1):=by kernel_rfl
@[simp] theorem bplaces51:bplaces Tryz.prog 51=some [(0,11),(11,1)]:=by kernel_rfl
@[simp] theorem eltp55:eltp Tryz.prog 55=some (79,5):=by kernel_rfl
@[simp] theorem isSl55:isSl Tryz.prog 55=true:=by kernel_rfl
@[simp] theorem tsz79:tsz Tryz.prog 79=some (true,5):=by kernel_rfl
@[simp] theorem tzero79:tzero Tryz.prog 79=some [.int .i64 0,.int .i64 0,.int .i64 0,.int .i64 0,.int .i64 0]:=by kernel_rfl
@[simp] theorem Qga:finfo Tryz.prog 79 0=some (0,false,1):=by kernel_rfl
@[simp] theorem Qe2:finfo Tryz.prog 79 1=some (1,false,1):=by kernel_rfl
@[simp] theorem Qfj:finfo Tryz.prog 79 2=some (2,false,1):=by kernel_rfl
@[simp] theorem Qe4:finfo Tryz.prog 79 3=some (3,false,1):=by kernel_rfl
@[simp] theorem Qfd:finfo Tryz.prog 79 4=some (4,false,1):=by kernel_rfl
@[simp] theorem flatN79:flatN Tryz.prog 79=some [0,0,0,0,0]:=by kernel_rfl
@[simp] theorem bplaces79:bplaces Tryz.prog 79=some [(0,1),(1,1),(2,1),(3,1),(4,1)]:=by kernel_rfl
@[simp] theorem tsz83:tsz Tryz.prog 83=some (true,5):=by kernel_rfl
@[simp] theorem Qey:finfo Tryz.prog 83 0=some (0,false,1):=by kernel_rfl
@[simp] theorem Qgn:finfo Tryz.prog 83 1=some (1,false,1):=by kernel_rfl
@[simp] theorem Qe5:finfo Tryz.prog 83 2=some (2,false,1):=by kernel_rfl
@[simp] theorem Qf4:finfo Tryz.prog 83 3=some (3,false,1):=by kernel_rfl
@[simp] theorem Qgh:finfo Tryz.prog 83 4=some (4,false,1):=by kernel_rfl
@[simp] theorem tsz104:tsz Tryz.prog 104=some (true,5):=by kernel_rfl
@[simp] theorem tzero104:tzero Tryz.prog 104=some [.int .i64 0,.int .i64 0,.int .i64 0,.int .i64 0,.int .i64 0]:=by kernel_rfl
@[simp] theorem Qdy:finfo Tryz.prog 104 0=some (0,false,1):=by kernel_rfl
@[simp] theorem Qd4:finfo Tryz.prog 104 1=some (1,false,1):=by kernel_rfl
@[simp] theorem Qc8:finfo Tryz.prog 104 2=some (2,false,1):=by kernel_rfl
@[simp] theorem Qeh:finfo Tryz.prog 104 3=some (3,false,1):=by kernel_rfl
@[simp] theorem Qes:finfo Tryz.prog 104 4=some (4,false,1):=by kernel_rfl
@[simp] theorem bplaces104:bplaces Tryz.prog 104=some [(0,1),(1,1),(2,1),(3,1),(4,1)]:=by kernel_rfl
@[simp] theorem tsz120:tsz Tryz.prog 120=some (true,5):=by kernel_rfl
@[simp] theorem Qdk:finfo Tryz.prog 120 0=some (0,false,1):=by kernel_rfl
@[simp] theorem Qdi:finfo Tryz.prog 120 1=some (1,false,1):=by kernel_rfl
@[simp] theorem Qdh:finfo Tryz.prog 120 2=some (2,false,1):=by kernel_rfl
@[simp] theorem Qdm:finfo Tryz.prog 120 3=some (3,false,1):=by kernel_rfl
@[simp] theorem Qdu:finfo Tryz.prog 120 4=some (4,false,1):=by kernel_rfl
@[simp] theorem tsz139:tsz Tryz.prog 139=some (false,1):=by kernel_rfl
@[simp] theorem eltp139:eltp Tryz.prog 139=some (197,5):=by kernel_rfl
@[simp] theorem isSl139:isSl Tryz.prog 139=true:=by kernel_rfl
@[simp] theorem tsz145:tsz Tryz.prog 145=some (false,1):=by kernel_rfl
@[simp] theorem tzero145:tzero Tryz.prog 145=some [.slice none 0 0]:=by kernel_rfl
@[simp] theorem eltp145:eltp Tryz.prog 145=some (148,5):=by kernel_rfl
@[simp] theorem isSl145:isSl Tryz.prog 145=true:=by kernel_rfl
@[simp] theorem tsz148:tsz Tryz.prog 148=some (true,5):=by kernel_rfl
@[simp] theorem tzero148:tzero Tryz.prog 148=some [.int .i64 0,.int .i64 0,.int .i64 0,.bool false,.bool false]:=by kernel_rfl
@[simp] theorem Qej:finfo Tryz.prog 148 0=some (0,false,1):=by kernel_rfl
@[simp] theorem Qeb:finfo Tryz.prog 148 1=some (1,false,1):=by kernel_rfl
@[simp] theorem Qdn:finfo Tryz.prog 148 2=some (2,false,1):=by kernel_rfl
@[simp] theorem Qeg:finfo Tryz.prog 148 3=some (3,false,1):=by kernel_rfl
@[simp] theorem Qdj:finfo Tryz.prog 148 4=some (4,false,1):=by kernel_rfl
@[simp] theorem flatN148:flatN Tryz.prog 148=some [0,0,0,1,1]:=by kernel_rfl
@[simp] theorem bplaces148:bplaces Tryz.prog 148=some [(0,1),(1,1),(2,1),(3,1),(4,1)]:=by kernel_rfl
@[simp] theorem eltp156:eltp Tryz.prog 156=some (188,3):=by kernel_rfl
@[simp] theorem isSl156:isSl Tryz.prog 156=true:=by kernel_rfl
@[simp] theorem tsz188:tsz Tryz.prog 188=some (true,3):=by kernel_rfl
@[simp] theorem tzero188:tzero Tryz.prog 188=some [.int .i64 0,.int .i64 0,.int .i64 0]:=by kernel_rfl
@[simp] theorem Qd0:finfo Tryz.prog 188 0=some (0,false,1):=by kernel_rfl
@[simp] theorem Qdt:finfo Tryz.prog 188 1=some (1,false,1):=by kernel_rfl
@[simp] theorem Qek:finfo Tryz.prog 188 2=some (2,false,1):=by kernel_rfl
@[simp] theorem bplaces188:bplaces Tryz.prog 188=some [(0,1),(1,1),(2,1)]:=by kernel_rfl
@[simp] theorem tsz197:tsz Tryz.prog 197=some (true,5):=by kernel_rfl
@[simp] theorem Qdf:finfo Tryz.prog 197 0=some (0,false,1):=by kernel_rfl
@[simp] theorem Qdc:finfo Tryz.prog 197 1=some (1,false,1):=by kernel_rfl
@[simp] theorem Qdq:finfo Tryz.prog 197 2=some (2,false,1):=by kernel_rfl
@[simp] theorem Qds:finfo Tryz.prog 197 3=some (3,false,1):=by kernel_rfl
@[simp] theorem Qdo:finfo Tryz.prog 197 4=some (4,false,1):=by kernel_rfl
@[simp] theorem eltp208:eltp Tryz.prog 208=some (4,1):=by kernel_rfl
@[simp] theorem tsz230:tsz Tryz.prog 230=some (true,5):=by kernel_rfl
@[simp] theorem tzero230:tzero Tryz.prog 230=some [.bool false,.bool false,.bool false,.bool false,.bool false]:=by kernel_rfl
@[simp] theorem arrp230:arrp Tryz.prog 230=some (5,1):=by kernel_rfl
@[simp] theorem tsz248:tsz Tryz.prog 248=some (false,1):=by kernel_rfl
@[simp] theorem tzero248:tzero Tryz.prog 248=some [.int .u64 0]:=by kernel_rfl
@[simp] theorem eltp253:eltp Tryz.prog 253=some (24,1):=by kernel_rfl
@[simp] theorem isSl253:isSl Tryz.prog 253=true:=by kernel_rfl
end Go.Proofs.YtlhaeingdonaeaaGreat.V
set_option linter.all false
namespace Go.Proofs.YtlhaeingdonaeaaGreat.V
open Go Go.VM
def rd (b:List Int) (j:Int):Int:=b.getD j.toNat 0
def inR (lo n hi:Int):Prop:=lo≤n∧n≤hi
instance (lo n hi:Int):Decidable (inR lo n hi):=inferInstanceAs (Decidable (_∧_))
def okG (w h:Int):Prop:=(1≤w∧w≤4)∧1≤h∧h≤4
instance (w h:Int):Decidable (okG w h):=inferInstanceAs (Decidable (_∧_))
def cnt (w h:Int):Int:=if okG w h then w*h else 0
def isN (w h n:Int):Prop:=0≤n∧n<cnt w h
instance (w h n:Int):Decidable (isN w h n):=inferInstanceAs (Decidable (_∧_))
def nodeAt (w h x y:Int):Int:=if okG w h∧(0≤x∧x<w)∧0≤y∧y<h then y*w+x else -1
def next (w h n p:Int):Int:=
 if isN w h n then
  (if p=0 then nodeAt w h (n%w) (n/w-1) else if p=1 then nodeAt w h (n%w+1) (n/w) else if p=2 then nodeAt w h (n%w) (n/w+1)
   else if p=3 then nodeAt w h (n%w-1) (n/w) else if p=4 then n else -1)
 else -1
def leads (w h c:Int):Prop:=(0≤c∧c<4*cnt w h)∧0≤next w h (c/4) (c%4)
instance (w h c:Int):Decidable (leads w h c):=inferInstanceAs (Decidable (_∧_))
def opp (p:Int):Int:=if p=4 then 4 else if 0≤p∧p≤3 then (p+2)%4 else -1
def goodAt (w h:Int) (b:List Int) (j:Nat):Prop:=leads w h (b.getD j 0)∧(0<j→b.getD (j-1) 0<b.getD j 0)
instance (w h:Int) (b:List Int) (j:Nat):Decidable (goodAt w h b j):=inferInstanceAs (Decidable (_∧_))
def meshOk (w h:Int) (b:List Int):Prop:=(∀j,j<b.length→goodAt w h b j)∧okG w h
instance (w h:Int) (b:List Int):Decidable (meshOk w h b):=inferInstanceAs (Decidable (_∧_))
def has (w h:Int) (b:List Int) (c:Int):Prop:=leads w h c∧c∉b
instance (w h:Int) (b:List Int) (c:Int):Decidable (has w h b c):=inferInstanceAs (Decidable (_∧_))
theorem Xr {w h:Int} (h1:okG w h):1≤w*h∧w*h≤16:=by
 obtain ⟨⟨a1,a2⟩,b1,b2⟩:=h1
 have c1:1*1≤w*h:=Int.mul_le_mul a1 b1 (by omega) (by omega)
 have c2:w*h≤4*4:=Int.mul_le_mul a2 b2 (by omega) (by omega)
 omega
theorem Qm (w h:Int):0≤cnt w h∧cnt w h≤16:=by
 unfold cnt;split
 ·rename_i h1;have:=Xr h1;omega
 ·omega
theorem Yy {w h n:Int} (h1:isN w h n):okG w h∧0≤n∧n<w*h∧n<16:=by
 obtain ⟨a,b⟩:=h1
 have:=Qm w h
 unfold cnt at b;split at b
 ·rename_i hg;have:=Xr hg;exact ⟨hg,a,b,by omega⟩
 ·omega
theorem w64 {x:Int} (h1 : -9223372036854775808≤x) (h2:x≤9223372036854775807):IntKind.i64.wrap x=x:=by rw [IntKind.wrap_i64];omega
theorem w6 (x:Int) (h : -9223372036854775808≤x∧x≤9223372036854775807):∀[Inhabited Unit],IntKind.i64.wrap x=x:=by intro _;exact w64 h.1 h.2
end Go.Proofs.YtlhaeingdonaeaaGreat.V
set_option linter.all false
namespace Go.Proofs.YtlhaeingdonaeaaGreat.V
open Go Go.VM Go.Proofs
set_option maxRecDepth 10000
variable {frz:Nat} {H:Heap}
theorem Qr (n lo hi:Int):vcall C frz 134 [.int .i64 n,.int .i64 lo,.int .i64 hi] H=some (.bool (decide (inR lo n hi)),H):=by
 rw [Qb (fn:=Tryz.f134) Tryz.func134 rfl (by kernel_rfl) rfl]
 simp
 repeat' (first|refine Wg _ _ ?_ ?_|refine Qo _ ?_ ?_)<;>intro h<;>simp [h,inR]
theorem Qx (n lo hi:Int):vcall C frz 103 [.int .i64 n,.int .i64 lo,.int .i64 hi] H=some (.bool (decide (inR lo n hi)),H):=by
 rw [Qb (fn:=Tryz.f103) Tryz.func103 rfl (by kernel_rfl) rfl]
 simp
 repeat' (first|refine Wg _ _ ?_ ?_|refine Qo _ ?_ ?_)<;>intro h<;>simp [h,inR]
theorem Sa (w h:Int):vcall C frz 170 [.agg #[.int .i64 w,.int .i64 h]] H=some (.bool (decide (okG w h)),H):=by
 rw [Qb (fn:=Tryz.f170) Tryz.func170 rfl (by kernel_rfl) rfl]
 simp [Qr]
 refine Wg _ _ ?_ ?_<;>intro h1<;>simp [h1,Qr]
 ·have:okG w h↔inR 1 h 4:=⟨fun g=>g.2,fun g=>⟨h1,g⟩⟩
  simp [this]
 ·exact fun g=>h1 g.1
theorem Sf (w h:Int):vcall C frz 95 [.agg #[.int .i64 w,.int .i64 h]] H=some (.bool (decide (okG w h)),H):=by
 rw [Qb (fn:=Tryz.f95) Tryz.func95 rfl (by kernel_rfl) rfl]
 simp [Qx]
 refine Wg _ _ ?_ ?_<;>intro h1<;>simp [h1,Qx]
 ·have:okG w h↔inR 1 h 4:=⟨fun g=>g.2,fun g=>⟨h1,g⟩⟩
  simp [this]
 ·exact fun g=>h1 g.1
theorem Wi (w h:Int):vcall C frz 129 [.agg #[.int .i64 w,.int .i64 h]] H=some (.int .i64 (cnt w h),H):=by
 rw [Qb (fn:=Tryz.f129) Tryz.func129 rfl (by kernel_rfl) rfl]
 simp [Sa]
 refine Qo _ ?_ ?_<;>intro h1<;>simp [h1,cnt]
 have:=Xr h1
 exact w64 (by omega) (by omega)
theorem Q6 (w h:Int):vcall C frz 50 [.agg #[.int .i64 w,.int .i64 h]] H=some (.int .i64 (cnt w h),H):=by
 rw [Qb (fn:=Tryz.f50) Tryz.func50 rfl (by kernel_rfl) rfl]
 simp [Sf]
 refine Qo _ ?_ ?_<;>intro h1<;>simp [h1,cnt]
 have:=Xr h1
 exact w64 (by omega) (by omega)
theorem M6 (w h n:Int):inR 0 n (IntKind.i64.wrap (cnt w h-1))↔isN w h n:=by
 have:=Qm w h
 rw [w64 (by omega) (by omega)]
 simp only [inR,isN];omega
theorem W1 (w h n:Int):vcall C frz 135 [.agg #[.int .i64 w,.int .i64 h],.int .i64 n] H=some (.bool (decide (isN w h n)),H):=by
 rw [Qb (fn:=Tryz.f135) Tryz.func135 rfl (by kernel_rfl) rfl]
 simp [Wi,Qr,M6]
theorem Xc (w h n:Int):vcall C frz 105 [.agg #[.int .i64 w,.int .i64 h],.int .i64 n] H=some (.bool (decide (isN w h n)),H):=by
 rw [Qb (fn:=Tryz.f105) Tryz.func105 rfl (by kernel_rfl) rfl]
 simp [Q6,Qx,M6]
theorem Af (w h x y:Int) (h1:okG w h):(inR 0 x (IntKind.i64.wrap (w-1))↔0≤x∧x<w)∧(inR 0 y (IntKind.i64.wrap (h-1))↔0≤y∧y<h):=by
 obtain ⟨⟨a1,a2⟩,b1,b2⟩:=h1
 rw [w64 (by omega) (by omega),w64 (by omega) (by omega)]
 simp only [inR];omega
theorem A3 {w h x y:Int} (h1:okG w h) (h2:0≤x∧x<w) (h3:0≤y∧y<h):IntKind.i64.wrap (IntKind.i64.wrap (y*w)+x)=y*w+x:=by
 have hm:=Xr h1
 obtain ⟨⟨a1,a2⟩,b1,b2⟩:=h1
 have c1:0*0≤y*w:=Int.mul_le_mul h3.1 (by omega) (by omega) (by omega)
 have c2:y*w≤h*w:=Int.mul_le_mul_of_nonneg_right (by omega) (by omega)
 rw [Int.mul_comm h w] at c2
 rw [w64 (x:=y*w) (by omega) (by omega),w64 (by omega) (by omega)]
theorem Ut (w h x y:Int):vcall C frz 267 [.agg #[.int .i64 w,.int .i64 h],.int .i64 x,.int .i64 y] H=some (.int .i64 (nodeAt w h x y),H):=by
 rw [Qb (fn:=Tryz.f267) Tryz.func267 rfl (by kernel_rfl) rfl]
 simp [Sa]
 refine Wg _ _ ?_ ?_<;>intro h1<;>simp [h1,Qr,nodeAt]
 obtain ⟨e1,e2⟩:=Af w h x y h1
 simp only [e1,e2]
 refine Wg _ _ ?_ ?_<;>intro h2<;>simp [h2,Qr]
 simp only [e2]
 refine Qo _ ?_ ?_<;>intro h3<;>simp [h3]
 exact A3 h1 h2 h3
theorem Zg (w h x y:Int):vcall C frz 192 [.agg #[.int .i64 w,.int .i64 h],.int .i64 x,.int .i64 y] H=some (.int .i64 (nodeAt w h x y),H):=by
 rw [Qb (fn:=Tryz.f192) Tryz.func192 rfl (by kernel_rfl) rfl]
 simp [Sf]
 refine Wg _ _ ?_ ?_<;>intro h1<;>simp [h1,Qx,nodeAt]
 obtain ⟨e1,e2⟩:=Af w h x y h1
 simp only [e1,e2]
 refine Wg _ _ ?_ ?_<;>intro h2<;>simp [h2,Qx]
 simp only [e2]
 refine Qo _ ?_ ?_<;>intro h3<;>simp [h3]
 exact A3 h1 h2 h3
theorem Yj (w h x y:Int) : -1≤nodeAt w h x y∧nodeAt w h x y<16:=by
 unfold nodeAt
 split
 ·rename_i h1
  obtain ⟨h1,h2,h3⟩:=h1
  have hm:=Xr h1
  obtain ⟨⟨a1,a2⟩,b1,b2⟩:=h1
  have c1:0*0≤y*w:=Int.mul_le_mul h3.1 (by omega) (by omega) (by omega)
  have c2:y*w≤(h-1)*w:=Int.mul_le_mul_of_nonneg_right (by omega) (by omega)
  rw [Int.sub_mul,Int.mul_comm h w] at c2
  omega
 ·omega
theorem Es {n w:Int} (h:0≤n) (h1:1≤w) (h2:n<16):IntKind.i64.wrap (n.tdiv w)=n/w:=by
 rw [Int.tdiv_eq_ediv_of_nonneg h]
 have h3:=Int.ediv_le_self w h
 have h4:=Int.ediv_nonneg h (by omega:0≤w)
 exact w64 (by omega) (by omega)
theorem Df {n w:Int} (h:0≤n):n.tmod w=n%w:=Int.tmod_eq_emod_of_nonneg h
theorem Nt {n w:Int} (h:0≤n) (h1:1≤w) (h2:n<16):0≤n/w∧n/w<16:=⟨Int.ediv_nonneg h (by omega),by have:=Int.ediv_le_self w h;omega⟩
theorem N9 {n w:Int} (h1:1≤w) (h2:w≤4):0≤n%w∧n%w<4:=⟨Int.emod_nonneg _ (by omega),by have:=Int.emod_lt_of_pos n (by omega:0<w);omega⟩
theorem Vv (w h n p:Int):vcall C frz 242 [.agg #[.int .i64 w,.int .i64 h],.int .i64 n,.int .i64 p] H=some (.int .i64 (next w h n p),H):=by
 rw [Qb (fn:=Tryz.f242) Tryz.func242 rfl (by kernel_rfl) rfl]
 simp [W1]
 refine Qo _ ?_ ?_<;>intro h1<;>simp [h1,next]
 obtain ⟨⟨⟨a1,a2⟩,b1,b2⟩,g2,g3,g4⟩:=Yy h1
 rw [Qj (h:=by kernel_rfl)]
 simp
 refine Wv (by omega) ?_
 refine Wv (by omega) ?_
 obtain ⟨d1,d2⟩:=Nt g2 a1 g4
 obtain ⟨m1,m2⟩:=N9 (n:=n) a1 a2
 rw [Es g2 a1 g4,Df g2]
 refine Qo _ ?_ ?_<;>intro p0<;>simp [p0,Ut]
 ·rw [w64 (by omega) (by omega)]
 refine Qo _ ?_ ?_<;>intro p1<;>simp [p1,Ut]
 ·rw [w64 (by omega) (by omega)]
 refine Qo _ ?_ ?_<;>intro p2<;>simp [p2,Ut]
 ·rw [w64 (by omega) (by omega)]
 refine Qo _ ?_ ?_<;>intro p3<;>simp [p3,Ut]
 ·rw [w64 (by omega) (by omega)]
 refine Qo _ ?_ ?_<;>intro p4<;>simp [p4,Ut]
theorem W3 (w h n p:Int):vcall C frz 161 [.agg #[.int .i64 w,.int .i64 h],.int .i64 n,.int .i64 p] H=some (.int .i64 (next w h n p),H):=by
 rw [Qb (fn:=Tryz.f161) Tryz.func161 rfl (by kernel_rfl) rfl]
 simp [Xc]
 refine Qo _ ?_ ?_<;>intro h1<;>simp [h1,next]
 obtain ⟨⟨⟨a1,a2⟩,b1,b2⟩,g2,g3,g4⟩:=Yy h1
 refine Wv (by omega) ?_
 refine Wv (by omega) ?_
 obtain ⟨d1,d2⟩:=Nt g2 a1 g4
 obtain ⟨m1,m2⟩:=N9 (n:=n) a1 a2
 rw [Es g2 a1 g4,Df g2]
 refine Qo _ ?_ ?_<;>intro p0<;>simp [p0,Zg]
 ·rw [w64 (by omega) (by omega)]
 refine Qo _ ?_ ?_<;>intro p1<;>simp [p1,Zg]
 ·rw [w64 (by omega) (by omega)]
 refine Qo _ ?_ ?_<;>intro p2<;>simp [p2,Zg]
 ·rw [w64 (by omega) (by omega)]
 refine Qo _ ?_ ?_<;>intro p3<;>simp [p3,Zg]
 ·rw [w64 (by omega) (by omega)]
 refine Qo _ ?_ ?_<;>intro p4<;>simp [p4,Zg]
theorem Fe (w h n p:Int) : -1≤next w h n p∧next w h n p<16:=by
 unfold next
 split
 ·rename_i h1
  have:=Yy h1
  have a0:=Yj w h (n%w) (n/w-1)
  have a1:=Yj w h (n%w+1) (n/w)
  have a2:=Yj w h (n%w) (n/w+1)
  have a3:=Yj w h (n%w-1) (n/w)
  repeat' split
  all_goals omega
 ·omega
theorem Tq (w h c:Int):inR 0 c (IntKind.i64.wrap (IntKind.i64.wrap (4*cnt w h)-1))↔0≤c∧c<4*cnt w h:=by
 have:=Qm w h
 rw [w64 (x:=4*cnt w h) (by omega) (by omega),w64 (by omega) (by omega)]
 simp only [inR];omega
theorem Uh {w h c:Int} (h1:0≤c∧c<4*cnt w h):IntKind.i64.wrap (c.tdiv 4)=c/4∧c.tmod 4=c%4:=by
 have:=Qm w h
 rw [Int.tdiv_eq_ediv_of_nonneg h1.1,Int.tmod_eq_emod_of_nonneg h1.1]
 exact ⟨w64 (by omega) (by omega),rfl⟩
theorem Li (w h c:Int):vcall C frz 221 [.agg #[.int .i64 w,.int .i64 h],.int .i64 c] H=some (.bool (decide (leads w h c)),H):=by
 rw [Qb (fn:=Tryz.f221) Tryz.func221 rfl (by kernel_rfl) rfl]
 simp [Wi,Qr]
 refine Wg _ _ ?_ ?_<;>intro h1<;>simp [h1]
 ·rw [Tq] at h1
  obtain ⟨e1,e2⟩:=Uh h1
  simp [e1,e2,Vv,leads,h1]
 ·rw [Tq] at h1
  exact fun g=>h1 g.1
theorem Oe (w h c:Int):vcall C frz 215 [.agg #[.int .i64 w,.int .i64 h],.int .i64 c] H=some (.bool (decide (leads w h c)),H):=by
 rw [Qb (fn:=Tryz.f215) Tryz.func215 rfl (by kernel_rfl) rfl]
 simp [Q6,Qx]
 refine Wg _ _ ?_ ?_<;>intro h1<;>simp [h1]
 ·rw [Tq] at h1
  obtain ⟨e1,e2⟩:=Uh h1
  simp [e1,e2,W3,leads,h1]
 ·rw [Tq] at h1
  exact fun g=>h1 g.1
theorem Qu (xs:List Int) (i:Nat) (h:i<xs.length):xs.getD i 0=xs[i]:=by simp [List.getD_eq_getElem?_getD,h]
theorem T7 (v:Value) (xs:List Int) (n:Int) (hI:IsI H v xs) (h0:0≤n) (h1:n≤1048576) (h2:xs.length≤9223372036854775807) :
 vcall C frz 55 [v,.int .i64 n] H=some (.int .i64 (if n<xs.length then -1 else n-xs.length),H):=by
 rw [Qb (fn:=Tryz.f55) Tryz.func55 rfl (by kernel_rfl) rfl]
 simp [hI.len]
 rw [w64 (by omega) (by omega)]
 refine Qo _ ?_ ?_<;>intro h<;>simp [h]
 ·intro hh;omega
 ·intro hh;omega
theorem R7 (v:Value) (xs:List Int) (hI:IsI H v xs) (hb:xs.length≤1073741824) :
 vcall C frz 21 [v] H=some (.slice (some ⟨H.length,0,some 0⟩) xs.length 0,H++[⟨xs.map (.int .i64),0,3⟩]):=by
 rw [Qb (fn:=Tryz.f21) Tryz.func21 rfl (by kernel_rfl) rfl]
 simp [hI.len]
 refine Wv (by omega) ?_
 refine Xa (fun n t H'=>∃i:Nat,n=xs.length-i∧i≤xs.length∧t 0=v∧t 3=.slice (some ⟨H.length,0,some 0⟩) xs.length 0∧t 4=.int .i64 i∧
  H'=H++[⟨(xs.map (.int .i64)).take i++List.replicate (xs.length-i) (.int .i64 0),0,3⟩]) ?_ (n:=xs.length) ⟨0,by simp⟩
 rintro n t H' ⟨i,rfl,hi,h0,h3,h4,rfl⟩ ih
 simp [h0,h3,h4,hI.lenA]
 refine Qo _ ?_ ?_<;>intro h
 ·simp [h0,h3,h4,h,hI.idxA,hI.loadA,Qu]
  refine Wv (by omega) ?_
  refine ih (xs.length-(i+1)) _ _ ⟨i+1,rfl,by omega,by simp [h0],by simp [h3],?_,?_⟩ (by omega)
  ·simp;rw [w64 (by omega) (by omega)]
  ·rw [Lw _ _ _ _ h]
 ·have:i=xs.length:=by omega
  subst this
  simp [h0,h3,h4,Fh]
theorem Pr (a b:Value) (xs ys:List Int) (ha:IsI H a xs) (hb:IsI H b ys) (hl:xs.length≤1073741824) :
 vcall C frz 13 [a,b] H=some (.bool (decide (xs=ys)),H):=by
 rw [Qb (fn:=Tryz.f13) Tryz.func13 rfl (by kernel_rfl) rfl]
 simp [ha.len,hb.len]
 refine Qo _ ?_ ?_<;>intro h0<;>simp [h0]
 ·refine Xa (fun n t H'=>∃i:Nat,n=xs.length-i∧i≤xs.length∧t 0=a∧t 1=b∧t 5=.int .i64 i∧H'=H∧xs.take i=ys.take i) ?_ (n:=xs.length) ⟨0,by simp⟩
  rintro n t H' ⟨i,rfl,hi,h1,h2,h3,rfl,h4⟩ ih
  simp [h1,h2,h3,ha.len]
  refine Qo _ ?_ ?_<;>intro h
  ·have h':i<ys.length:=by omega
   simp [h1,h2,h3,h]
   rw [Qj (h:=by kernel_rfl)]
   simp [h1,h2,h3,h,h',ha.idx,ha.load,hb.idx,hb.load,Qu]
   refine Qo _ ?_ ?_<;>intro h5<;>simp [h1,h2,h3,h5]
   ·refine ih (xs.length-(i+1)) _ _ ⟨i+1,rfl,by omega,by simp [h1],by simp [h2],?_,rfl,?_⟩ (by omega)
    ·simp;rw [w64 (by omega) (by omega)]
    ·rw [List.take_succ_eq_append_getElem h,List.take_succ_eq_append_getElem h',h4];simp [h5]
   ·intro hh;subst hh;simp at h5
  ·have:i=xs.length:=by omega
   subst this
   simp [h1,h2,h3]
   rw [List.take_length,List.take_of_length_le (by omega)] at h4
   exact h4
 ·intro hh;exact h0 (by rw [hh])
theorem A5 (w h:Int):vcall C frz 123 [.agg #[.int .i64 w,.int .i64 h]] H=some (.agg #[.int .i64 w,.int .i64 h],H):=by
 rw [Qb (fn:=Tryz.f123) Tryz.func123 rfl (by kernel_rfl) rfl]
 simp
theorem A7 (w h:Int) (v:Value) (xs:List Int) (n:Int) (hI:IsI H v xs) (h0:0≤n) (h1:n≤1048576) (h2:xs.length≤9223372036854775807) :
 vcall C frz 52 [.agg #[.int .i64 w,.int .i64 h,v],.int .i64 n] H=some (.int .i64 (if n<xs.length then -1 else n-xs.length),H):=by
 rw [Qb (fn:=Tryz.f52) Tryz.func52 rfl (by kernel_rfl) rfl]
 simp [T7 _ _ _ (hI.app _) h0 h1 h2,hI.one',hI.cells]
 refine Qo _ ?_ ?_<;>intro h<;>simp [h]
 ·intro hh;omega
theorem A8 (w h:Int) (v:Value) (xs:List Int) (hI:IsI H v xs) (hb:xs.length≤1073741824) :
 vcall C frz 71 [.agg #[.int .i64 w,.int .i64 h,v]] H=some (.agg #[.int .i64 w,.int .i64 h,.slice (some ⟨H.length,0,some 0⟩) xs.length 0],H++[⟨xs.map (.int .i64),0,3⟩]):=by
 rw [Qb (fn:=Tryz.f71) Tryz.func71 rfl (by kernel_rfl) rfl]
 simp [A5,R7 _ _ (hI.app _) hb,hI.one',hI.cells]
theorem Bi (w h w' h':Int):vcall C frz 147 [.agg #[.int .i64 w,.int .i64 h],.agg #[.int .i64 w',.int .i64 h']] H=some (.bool (decide (w=w'∧h=h')),H):=by
 rw [Qb (fn:=Tryz.f147) Tryz.func147 rfl (by kernel_rfl) rfl]
 simp
 refine Qo _ ?_ ?_<;>intro h0<;>simp [h0]
 refine Qo _ ?_ ?_<;>intro h0<;>simp [h0]
theorem Bg (w h w' h':Int) (a b:Value) (xs ys:List Int) (ha:IsI H a xs) (hb:IsI H b ys) (hl:xs.length≤1073741824) :
 vcall C frz 81 [.agg #[.int .i64 w,.int .i64 h,a],.agg #[.int .i64 w',.int .i64 h',b]] H=some (.bool (decide ((w=w'∧h=h')∧xs=ys)),H):=by
 rw [Qb (fn:=Tryz.f81) Tryz.func81 rfl (by kernel_rfl) rfl]
 simp [Bi,ha.one',hb.one',ha.cells,hb.cells,-Bool.decide_and]
 refine Qo _ ?_ ?_<;>intro h0<;>simp [h0,Pr _ _ _ _ (ha.app _) (hb.app _) hl]
 refine Qo _ ?_ ?_<;>intro h0<;>simp [h0]
theorem wr0:IntKind.i64.wrap 0=0:=by decide
theorem Qbr:vcall C frz 278 [.slice none 0 0,.int .i64 0] H=some (.slice none 0 0,H):=by
 rw [Qb (fn:=Tryz.f278) Tryz.func278 rfl (by kernel_rfl) rfl]
 simp [wr0]
theorem Qd5 (n:Int) (h0:0<n) (h1:n≤1073741824) :
 vcall C frz 278 [.slice none 0 0,.int .i64 n] H=some (.slice (some ⟨H.length,0,some 0⟩) 0 0,H++[⟨[],0,3⟩]):=by
 rw [Qb (fn:=Tryz.f278) Tryz.func278 rfl (by kernel_rfl) rfl]
 have e:IntKind.i64.wrap n=n:=w64 (by omega) (by omega)
 simp [wr0,e,h0]
 refine Qo _ ?_ ?_<;>intro h2
 ·omega
 simp [h2,wr0,e,h0]
 exact Wv h1 (Wv (by omega) rfl)
theorem Bu (id:Nat) (x y:Value) (xs ys:List Int) (hr:H[id]? = some ⟨[x,y],0,24⟩) (hx:IsI H x xs) (hy:IsI H y ys) (hl:xs.length+ys.length≤1073741824) :
 vcall C frz 264 [.slice (some ⟨id,0,some 0⟩) 2 0] H=some (if xs++ys=[] then (.slice none 0 0,H) else (.slice (some ⟨H.length,0,some 0⟩) (xs++ys).length 0,H++[⟨(xs++ys).map (.int .i64),0,3⟩])):=by
 rw [Qb (fn:=Tryz.f264) Tryz.func264 rfl (by kernel_rfl) rfl]
 simp [VM.look,hr]
 have lk0:∀o,VM.look H ⟨id,o,some 0⟩=some ⟨[x,y],0,24⟩:=fun o=>by simp [VM.look,hr]
 have lk:∀L o,VM.look (H++L) ⟨id,o,some 0⟩=some ⟨[x,y],0,24⟩:=fun L o=>by
  simp [VM.look,List.getElem?_append_left (List.getElem?_eq_some_iff.1 hr).1,hr]
 have e1:IntKind.i64.wrap (xs.length:Int)=xs.length:=w64 (by omega) (by omega)
 have e2:IntKind.i64.wrap ((xs.length:Int)+ys.length)=xs.length+ys.length:=w64 (by omega) (by omega)
 have n1:¬(xs.length:Int)<0:=by omega
 have n2:¬(xs.length:Int)+ys.length<0:=by omega
 have wr1:IntKind.i64.wrap 1=1:=by decide
 have wr2:IntKind.i64.wrap 2=2:=by decide
 rw [W4]
 simp [VM.look,hr,hx.len,hy.len,wr0,wr1,wr2,e1,n1]
 rw [Xf,W4]
 simp [VM.look,hr,hx.len,hy.len,wr0,wr1,wr2,e1,e2,n1,n2]
 rw [Xf,W4]
 simp [VM.look,hr,hx.len,hy.len,wr0,wr1,wr2,e1,e2,n1,n2]
 by_cases h0:xs.length+ys.length=0
 ·obtain rfl:xs=[]:=List.length_eq_zero_iff.1 (by omega)
  obtain rfl:ys=[]:=List.length_eq_zero_iff.1 (by omega)
  simp [Qbr,lk0]
  rw [W4]
  simp [lk0,hx.src,wr0,wr1]
  rw [Xf,W4]
  simp [lk0,hy.src,wr0,wr1,wr2]
  rw [Xf,W4]
  simp [lk0,wr0,wr1,wr2]
 ·have hno:¬(xs=[]∧ys=[]):=fun ⟨a,b⟩=>h0 (by rw [a,b];rfl)
  simp [Qd5 _ (show (0:Int)<xs.length+ys.length by omega) (by omega),hno,lk]
  rw [W4]
  simp [lk,(hx.app _).src,wr0,wr1]
  by_cases hx0:xs=[]
  ·have hy0:ys≠[]:=fun hh=>hno ⟨hx0,hh⟩
   have hyl:ys.length≤1073741824:=by omega
   simp [hx0]
   rw [Xf,W4]
   simp [lk,(hy.app _).src,wr0,wr1,wr2,hy0,hyl]
   rw [Xf,W4]
   simp [lk,wr0,wr1,wr2]
  ·have hxl:xs.length≤1073741824:=by omega
   simp [hx0,hxl]
   rw [Xf,W4]
   simp [lk,(hy.app _).src,wr0,wr1,wr2]
   by_cases hy0:ys=[]
   ·simp [hy0]
    rw [Xf,W4]
    simp [lk,wr0,wr1,wr2]
   ·simp [hy0,hl]
    rw [Xf,W4]
    simp [lk,wr0,wr1,wr2]
theorem Zt {w h:Int} {b:List Int} {i:Nat} (h5:i<b.length) (hg:¬goodAt w h b i):¬meshOk w h b:=fun hh=>hg (hh.1 i h5)
theorem Rc {w h:Int} {b:List Int} {i:Nat} (hj:∀j<i,goodAt w h b j) (hg:goodAt w h b i):∀j<i+1,goodAt w h b j:=fun j hh=>by
 by_cases hji:j<i
 ·exact hj j hji
 ·have:j=i:=by omega
  rw [this];exact hg
theorem Xb {w h:Int} {b:List Int} {i:Nat} (h5:i<b.length):goodAt w h b i↔leads w h b[i]∧(0<i→b[i-1]<b[i]):=by
 unfold goodAt
 rw [Qu _ _ h5]
 refine and_congr Iff.rfl ⟨fun g p=>?_,fun g p=>?_⟩
 ·have:=g p;rwa [Qu _ _ (by omega)] at this
 ·rw [Qu _ _ (by omega)];exact g p
theorem Su (w h:Int) (v:Value) (b:List Int) (hI:IsI H v b) (hl:b.length≤1073741824) :
 vcall C frz 193 [.agg #[.int .i64 w,.int .i64 h,v]] H=some (.bool (decide (meshOk w h b)),H):=by
 rw [Qb (fn:=Tryz.f193) Tryz.func193 rfl (by kernel_rfl) rfl]
 simp [hI.one',hI.cells,hI.lenA,Sf]
 refine Qo _ ?_ ?_<;>intro hg<;>simp [hg]
 ·refine Xa (fun n t H'=>∃i:Nat,n=b.length-i∧i≤b.length∧t 1=.pointer (some ⟨H.length,0,some 0⟩)∧t 3=.int .i64 i∧
   H'=H++[⟨[.int .i64 w,.int .i64 h,v],0,42⟩]∧∀j<i,goodAt w h b j) ?_ (n:=b.length) ⟨0,by simp⟩
  rintro n t H' ⟨i,rfl,hi,h1,h3,rfl,hj⟩ ih
  have next:=fun (t':Env) (e1:t' 1=.pointer (some ⟨H.length,0,some 0⟩)) (e2:t' 3=.int .i64 (i+1:Nat)) (e3:i<b.length) (e4:goodAt w h b i)=>
   ih (b.length-(i+1)) t' _ ⟨i+1,rfl,by omega,e1,e2,rfl,Rc hj e4⟩ (by omega)
  simp [h1,h3,hI.lenA]
  refine Qo _ ?_ ?_<;>intro h5
  ·simp [h1,h3,h5]
   rw [Qj (h:=by kernel_rfl)]
   simp [h1,h3,h5,hI.idxA,hI.loadA,Qu,Oe]
   refine Wg _ _ ?_ ?_<;>intro hL<;>simp [h1,h3,h5,hL]
   ·refine Wg _ _ ?_ ?_<;>intro h0
    ·have e:IntKind.i64.wrap ((i:Int)-1)=((i-1:Nat):Int):=by rw [w64 (by omega) (by omega)];omega
     have e':i-1<b.length:=by omega
     simp [h1,h3,h5,h0,hL,hI.idxA,hI.loadA,Qu,e,e']
     refine Qo _ ?_ ?_<;>intro h6
     ·simp [h1,h3,h5,h0,hL,h6]
      refine Zt h5 ?_
      rw [Xb h5]
      exact fun hh=>absurd (hh.2 h0) (by omega)
     ·simp [h1,h3,h5,h0,hL,h6]
      refine next _ (by simp [h1]) ?_ h5 ((Xb h5).2 ⟨hL,fun _=>by omega⟩)
      simp;rw [w64 (by omega) (by omega)]
    ·simp [h1,h3,h5,h0,hL]
     refine next _ (by simp [h1]) ?_ h5 ((Xb h5).2 ⟨hL,fun hh=>absurd hh h0⟩)
     simp;rw [w64 (by omega) (by omega)]
   ·refine Zt h5 ?_
    rw [Xb h5]
    exact fun hh=>hL hh.1
  ·have:i=b.length:=by omega
   subst this
   simp [h1,h3]
   exact ⟨hj,hg⟩
 ·exact fun hh=>hg hh.2
theorem Or {b:List Int} {c:Int} {i:Nat} (h:i<b.length) (h1:c∉b.take i) (h2:¬b[i]=c):c∉b.take (i+1):=by
 rw [List.take_succ_eq_append_getElem h]
 simp only [List.mem_append,List.mem_singleton,not_or]
 exact ⟨h1,fun hh=>h2 hh.symm⟩
def place (b:List Int) (c:Int):Int:=if c∈b then b.idxOf c else -1
theorem Kf (b:List Int) (c:Int) : -1≤place b c∧place b c<b.length∧(0≤place b c↔c∈b):=by
 unfold place
 split
 ·rename_i h
  have:=List.idxOf_lt_length_iff.2 h
  refine ⟨by omega,by omega,?_⟩
  simp [h]
 ·rename_i h
  refine ⟨by omega,by omega,?_⟩
  simp [h]
theorem B8 {b:List Int} {c:Int} {i:Nat} (h:i<b.length) (h1:c∉b.take i) (h2:b[i]=c):place b c=i:=by
 have hm:c∈b:=h2▸List.getElem_mem h
 unfold place
 rw [if_pos hm]
 have e:b=b.take i++b.drop i:=(List.take_append_drop i b).symm
 have e2:b.drop i=c::b.drop (i+1):=by rw [List.drop_eq_getElem_cons h,h2]
 rw [e,List.idxOf_append,if_neg h1,e2,List.idxOf_cons_self]
 simp;omega
theorem Qah (v:Value) (b:List Int) (c:Int) (hI:IsI H v b) (hl:b.length≤1073741824) :
 vcall C frz 216 [v,.int .i64 c] H=some (.bool (decide (c∈b)),H):=by
 rw [Qb (fn:=Tryz.f216) Tryz.func216 rfl (by kernel_rfl) rfl]
 simp [hI.len]
 refine Xa (fun n t H'=>∃i:Nat,n=b.length-i∧i≤b.length∧t 0=v∧t 1=.int .i64 c∧t 5=.int .i64 i∧H'=H∧c∉b.take i) ?_ (n:=b.length) ⟨0,by simp⟩
 rintro n t H' ⟨i,rfl,hi,h1,h2,h3,rfl,hj⟩ ih
 simp [h1,h2,h3,hI.len]
 refine Qo _ ?_ ?_<;>intro h5
 ·simp [h1,h2,h3,h5,hI.idx,hI.load,Qu]
  refine Qo _ ?_ ?_<;>intro h6<;>simp [h1,h2,h3,h6]
  ·rw [← h6];exact List.getElem_mem h5
  ·refine ih (b.length-(i+1)) _ _ ⟨i+1,rfl,by omega,by simp [h1],by simp [h2],?_,rfl,Or h5 hj h6⟩ (by omega)
   simp;rw [w64 (by omega) (by omega)]
 ·have:i=b.length:=by omega
  subst this
  simp [h1,h2,h3]
  rwa [List.take_length] at hj
theorem Ln (v:Value) (b:List Int) (c:Int) (hI:IsI H v b) (hl:b.length≤1073741824) :
 vcall C frz 247 [v,.int .i64 c] H=some (.int .i64 (place b c),H):=by
 rw [Qb (fn:=Tryz.f247) Tryz.func247 rfl (by kernel_rfl) rfl]
 simp [hI.len]
 refine Xa (fun n t H'=>∃i:Nat,n=b.length-i∧i≤b.length∧t 0=v∧t 1=.int .i64 c∧t 6=v∧t 7=.int .i64 b.length∧t 8=.int .i64 i∧H'=H∧c∉b.take i) ?_ (n:=b.length) ⟨0,by simp⟩
 rintro n t H' ⟨i,rfl,hi,h0,h1,h2,h3,h4,rfl,hj⟩ ih
 simp [h0,h1,h2,h3,h4,hI.len]
 refine Qo _ ?_ ?_<;>intro h5
 ·simp [h0,h1,h2,h3,h4,h5,hI.idx,hI.load,Qu]
  refine Qo _ ?_ ?_<;>intro h6<;>simp [h0,h1,h2,h3,h4,h6]
  ·rw [B8 (c:=b[i]) h5 (by first|exact hj|(rw [h6];exact hj)|(rw [← h6];exact hj)) rfl]
  ·refine ih (b.length-(i+1)) _ _ ⟨i+1,rfl,by omega,by simp [h0],by simp [h1],by simp [h2],by simp [h3],?_,rfl,Or h5 hj (by omega)⟩ (by omega)
   simp;rw [w64 (by omega) (by omega)]
 ·have:i=b.length:=by omega
  subst this
  simp [h0,h1,h2,h3]
  rw [List.take_length] at hj
  rw [place,if_neg hj]
theorem Z3 (v:Value) (b:List Int) (c:Int) (hI:IsI H v b) (hl:b.length≤1073741824) :
 vcall C frz 227 [v,.int .i64 c] H=some (.bool (decide (c∈b)),H):=by
 rw [Qb (fn:=Tryz.f227) Tryz.func227 rfl (by kernel_rfl) rfl]
 simp [Ln _ _ _ hI hl,Kf]
theorem Us (w h:Int) (v:Value) (b:List Int) (c:Int) (hI:IsI H v b) (hl:b.length≤1073741824) :
 vcall C frz 194 [.agg #[.int .i64 w,.int .i64 h,v],.int .i64 c] H=some (.bool (decide (has w h b c)),H):=by
 rw [Qb (fn:=Tryz.f194) Tryz.func194 rfl (by kernel_rfl) rfl]
 simp [hI.one',hI.cells,Oe]
 refine Wg _ _ ?_ ?_<;>intro h1<;>simp [h1,Qah _ _ _ (hI.app _) hl,has,-Bool.decide_and]
theorem Ev (w h:Int) (v:Value) (b:List Int) (r:Int) (hI:IsI H v b) (hl:b.length≤1073741824) :
 vcall C frz 237 [.agg #[.int .i64 w,.int .i64 h,v],.int .i64 r] H=some (.bool (decide (meshOk w h b∧isN w h r)),H):=by
 rw [Qb (fn:=Tryz.f237) Tryz.func237 rfl (by kernel_rfl) rfl]
 simp [hI.one',hI.cells,Su _ _ _ _ (hI.app _) hl]
 refine Wg _ _ ?_ ?_<;>intro h1<;>simp [h1,Xc,-Bool.decide_and]
theorem T2 (w h:Int) (v:Value) (b:List Int) (c:Int) (hI:IsI H v b) (h0:leads w h c) :
 vcall C frz 223 [.agg #[.int .i64 w,.int .i64 h,v],.int .i64 c] H=some (.int .i64 (next w h (c/4) (c%4)),H):=by
 rw [Qb (fn:=Tryz.f223) Tryz.func223 rfl (by kernel_rfl) rfl]
 obtain ⟨e1,e2⟩:=Uh h0.1
 simp [hI.one',hI.cells,e1,e2,Vv]
theorem Zj (w h:Int) (v:Value) (b:List Int) (hI:IsI H v b) (hl:b.length≤1073741824) :
 vcall C frz 198 [.agg #[.int .i64 w,.int .i64 h,v]] H=some (.bool (decide (meshOk w h b)),H):=by
 rw [Qb (fn:=Tryz.f198) Tryz.func198 rfl (by kernel_rfl) rfl]
 simp [hI.one',hI.cells,hI.lenA]
 refine Xa (fun n t H'=>∃i:Nat,n=b.length-i∧i≤b.length∧t 1=.pointer (some ⟨H.length,0,some 0⟩)∧t 6=v∧t 7=.int .i64 b.length∧t 8=.int .i64 i∧
  H'=H++[⟨[.int .i64 w,.int .i64 h,v],0,42⟩]∧∀j<i,goodAt w h b j) ?_ (n:=b.length) ⟨0,by simp⟩
 rintro n t H' ⟨i,rfl,hi,h1,h2,h3,h4,rfl,hj⟩ ih
 have next:=fun (t':Env) (e1:t' 1=.pointer (some ⟨H.length,0,some 0⟩)) (e2:t' 6=v) (e3:t' 7=.int .i64 b.length) (e4:t' 8=.int .i64 (i+1:Nat)) (e5:i<b.length) (e6:goodAt w h b i)=>
  ih (b.length-(i+1)) t' _ ⟨i+1,rfl,by omega,e1,e2,e3,e4,rfl,Rc hj e6⟩ (by omega)
 simp [h1,h2,h3,h4]
 refine Qo _ ?_ ?_<;>intro h5
 ·simp [h1,h2,h3,h4,h5,hI.idxA,hI.loadA,Qu,Li]
  refine Wg _ _ ?_ ?_<;>intro hL<;>simp [h1,h2,h3,h4,h5,hL]
  ·refine Wg _ _ ?_ ?_<;>intro h0
   ·have e:IntKind.i64.wrap ((i:Int)-1)=((i-1:Nat):Int):=by rw [w64 (by omega) (by omega)];omega
    have e':i-1<b.length:=by omega
    simp [h1,h2,h3,h4,h5,h0,hL,hI.idxA,hI.loadA,Qu,e,e']
    refine Qo _ ?_ ?_<;>intro h6
    ·simp [h1,h2,h3,h4,h5,h0,hL,h6]
     refine Zt h5 ?_
     rw [Xb h5]
     exact fun hh=>absurd (hh.2 h0) (by omega)
    ·simp [h1,h2,h3,h4,h5,h0,hL,h6]
     refine next _ (by simp [h1]) (by simp [h2]) (by simp [h3]) ?_ h5 ((Xb h5).2 ⟨hL,fun _=>by omega⟩)
     simp;rw [w64 (by omega) (by omega)]
   ·simp [h1,h2,h3,h4,h5,h0,hL]
    refine next _ (by simp [h1]) (by simp [h2]) (by simp [h3]) ?_ h5 ((Xb h5).2 ⟨hL,fun hh=>absurd hh h0⟩)
    simp;rw [w64 (by omega) (by omega)]
  ·refine Zt h5 ?_
   rw [Xb h5]
   exact fun hh=>hL hh.1
 ·have:i=b.length:=by omega
  subst this
  simp [h1,h2,h3,h4,Sa]
  exact ⟨fun hg=>⟨hj,hg⟩,fun hh=>hh.2⟩
theorem Kg (w h:Int) (v:Value) (b:List Int) (r:Int) (hI:IsI H v b) (hl:b.length≤1073741824) :
 vcall C frz 265 [.agg #[.int .i64 w,.int .i64 h,v],.int .i64 r] H=some (.bool (decide (meshOk w h b∧isN w h r)),H):=by
 rw [Qb (fn:=Tryz.f265) Tryz.func265 rfl (by kernel_rfl) rfl]
 simp [hI.one',hI.cells,Zj _ _ _ _ (hI.app _) hl]
 refine Wg _ _ ?_ ?_<;>intro h1<;>simp [h1,W1,-Bool.decide_and]
theorem Yl (w h:Int) (v:Value) (b:List Int) (c:Int) (hI:IsI H v b) (hl:b.length≤1073741824) :
 vcall C frz 208 [.agg #[.int .i64 w,.int .i64 h,v],.int .i64 c] H=some (.bool (decide (meshOk w h b∧has w h b c)),H):=by
 rw [Qb (fn:=Tryz.f208) Tryz.func208 rfl (by kernel_rfl) rfl]
 simp [hI.one',hI.cells,Zj _ _ _ _ (hI.app _) hl]
 refine Wg _ _ ?_ ?_<;>intro h1<;>simp [h1,Li,-Bool.decide_and]
 refine Wg _ _ ?_ ?_<;>intro h2<;>simp [h2,has,Z3 _ _ _ (hI.app _) hl,-Bool.decide_and]
end Go.Proofs.YtlhaeingdonaeaaGreat.V
set_option linter.all false
namespace Go.Proofs.YtlhaeingdonaeaaGreat.V
open Go Go.VM Go.Proofs
set_option maxRecDepth 10000
def portOf (w h:Int) (T:List Int) (a to:Int):Int:=rd T (a*cnt w h+to)
def stepOk (w h:Int) (b T:List Int) (a to:Int):Prop:=inR 0 (portOf w h T a to) 3∧has w h b (4*a+portOf w h T a to)
instance (w h:Int) (b T:List Int) (a to:Int):Decidable (stepOk w h b T a to):=inferInstanceAs (Decidable (_∧_))
def walkN (w h:Int) (b T:List Int) (to:Int):Nat→Int→List Int→List Int
 | 0,a,out=>if portOf w h T a to=4 then (if a=to then out else []) else []
 | f+1,a,out=>if portOf w h T a to=4 then (if a=to then out else []) else
  if stepOk w h b T a to then walkN w h b T to f (next w h a (portOf w h T a to)) (out++[4*a+portOf w h T a to]) else []
def walk (w h:Int) (b T:List Int) (a to:Int):List Int:=walkN w h b T to (cnt w h).toNat a []
def tsized (w h:Int) (b T:List Int):Prop:=meshOk w h b∧(T.length:Int)=cnt w h*cnt w h
instance (w h:Int) (b T:List Int):Decidable (tsized w h b T):=inferInstanceAs (Decidable (_∧_))
def tableOk (w h:Int) (b T:List Int):Prop:=tsized w h b T∧∀a,a<(cnt w h).toNat→∀c,c<(cnt w h).toNat→(a=c→portOf w h T a a=4)∧(a≠c→walk w h b T a c≠[])
instance (w h:Int) (b T:List Int):Decidable (tableOk w h b T):=inferInstanceAs (Decidable (_∧_))
theorem Zz {w h x y:Int} (hx:0≤nodeAt w h x y):isN w h (nodeAt w h x y):=by
 refine ⟨hx,?_⟩
 unfold nodeAt at hx ⊢
 split
 ·rename_i h1
  obtain ⟨h1,h2,h3⟩:=h1
  have hm:=Xr h1
  have c2:y*w≤(h-1)*w:=Int.mul_le_mul_of_nonneg_right (by omega) (by have:=h1.1.1;omega)
  rw [Int.sub_mul,Int.mul_comm h w] at c2
  rw [cnt,if_pos h1]
  omega
 ·rename_i h1;rw [if_neg h1] at hx;omega
theorem Iw {w h a p:Int} (hx:0≤next w h a p):isN w h (next w h a p):=by
 unfold next at hx ⊢
 by_cases h1:isN w h a
 ·rw [if_pos h1] at hx ⊢
  by_cases p0:p=0
  ·rw [if_pos p0] at hx ⊢;exact Zz hx
  rw [if_neg p0] at hx ⊢
  by_cases p1:p=1
  ·rw [if_pos p1] at hx ⊢;exact Zz hx
  rw [if_neg p1] at hx ⊢
  by_cases p2:p=2
  ·rw [if_pos p2] at hx ⊢;exact Zz hx
  rw [if_neg p2] at hx ⊢
  by_cases p3:p=3
  ·rw [if_pos p3] at hx ⊢;exact Zz hx
  rw [if_neg p3] at hx ⊢
  by_cases p4:p=4
  ·rw [if_pos p4] at hx ⊢;exact h1
  rw [if_neg p4] at hx;omega
 ·rw [if_neg h1] at hx;omega
theorem U2 {w h a p:Int} {b:List Int} (h0:inR 0 p 3) (h1:has w h b (4*a+p)):(4*a+p)/4=a∧(4*a+p)%4=p∧isN w h (next w h a p):=by
 obtain ⟨h2,h3⟩:=h0
 have e1:(4*a+p)/4=a:=by omega
 have e2:(4*a+p)%4=p:=by omega
 refine ⟨e1,e2,Iw ?_⟩
 have:=h1.1.2
 rwa [e1,e2] at this
theorem Uu {w h a to:Int} (h1:isN w h a) (h2:isN w h to):0≤a*cnt w h+to∧a*cnt w h+to<cnt w h*cnt w h∧a*cnt w h≤256∧0≤a*cnt w h:=by
 have hc:=Qm w h
 obtain ⟨a1,a2⟩:=h1
 obtain ⟨b1,b2⟩:=h2
 have c1:0*0≤a*cnt w h:=Int.mul_le_mul a1 hc.1 (by omega) (by omega)
 have c2:a*cnt w h≤(cnt w h-1)*cnt w h:=Int.mul_le_mul_of_nonneg_right (by omega) hc.1
 rw [Int.sub_mul] at c2
 have c3:cnt w h*cnt w h≤16*16:=Int.mul_le_mul hc.2 hc.2 hc.1 (by omega)
 omega
end Go.Proofs.YtlhaeingdonaeaaGreat.V
set_option linter.all false
namespace Go.Proofs.YtlhaeingdonaeaaGreat.V
open Go Go.VM
theorem Z8 {s:List Int} {j:Nat} (h:j<s.length):rd s (j:Int)=s[j]:=by simp [rd,List.getD_eq_getElem?_getD,h]
theorem Sc {s:List Int} {k:Int} (h0:0≤k) (h1:k<s.length):rd s k∈s:=by
 obtain ⟨i,rfl⟩:=Int.eq_ofNat_of_zero_le h0
 rw [Z8 (by omega)];exact List.getElem_mem _
theorem Rz (w h:Int) (b:List Int):meshOk w h b↔okG w h∧(∀c∈b,leads w h c)∧b.Pairwise (· < ·):=by
 have e:∀j,j<b.length→b.getD j 0=rd b (j:Int):=fun j _=>by simp [rd]
 constructor
 ·rintro ⟨h1,h2⟩
  refine ⟨h2,fun c hc=>?_,?_⟩
  ·obtain ⟨j,hj,rfl⟩:=List.getElem_of_mem hc
   have:=(h1 j hj).1
   rwa [Qu _ _ hj] at this
  ·rw [List.pairwise_iff_getElem]
   intro i j hi hj hij
   induction j with
   | zero=>omega
   | succ j ih=>
    have:=(h1 (j+1) hj).2 (by omega)
    rw [Qu _ _ hj,Nat.add_sub_cancel,Qu _ _ (by omega)] at this
    by_cases h3:i=j
    ·subst h3;exact this
    ·exact Int.lt_trans (ih (by omega) (by omega)) this
 ·rintro ⟨h1,h2,h3⟩
  refine ⟨fun j hj=>⟨by rw [Qu _ _ hj];exact h2 _ (List.getElem_mem hj),fun h0=>?_⟩,h1⟩
  rw [Qu _ _ hj,Qu _ _ (by omega)]
  exact List.pairwise_iff_getElem.1 h3 _ _ _ _ (by omega)
def endC (w h c:Int):Int:=next w h (c/4) (c%4)
def backC (w h c:Int):Int:=4*endC w h c+opp (c%4)
def link (w h:Int) (b:List Int) (c:Int):Prop:=has w h b c∧has w h b (backC w h c)
instance (w h:Int) (b:List Int) (c:Int):Decidable (link w h b c):=inferInstanceAs (Decidable (_∧_))
theorem Eo {n:Nat}:∀{b:List Int},b.Pairwise (· < ·)→(∀c∈b,0≤c∧c<(n:Int))→b.length≤n:=by
 intro b hb hc
 have key:∀(b:List Int) (lo:Int),b.Pairwise (· < ·)→(∀c∈b,lo≤c∧c<(n:Int))→0≤lo→(b.length:Int)≤max 0 (n-lo):=by
  intro b
  induction b with
  | nil=>intro lo _ _ _;simp;omega
  | cons a l ih=>
   intro lo hp hm h0
   have h1:=hm a (by simp)
   have h2:=ih (a+1) (List.pairwise_cons.1 hp).2 (fun c hc=>⟨by have:=(List.pairwise_cons.1 hp).1 c hc;omega,(hm c (by simp [hc])).2⟩) (by omega)
   simp;omega
 have:=key b 0 hb (fun c h=>⟨(hc c h).1,(hc c h).2⟩) (by omega)
 omega
def neg (s:List Int):Nat:=s.countP (· < 0)
theorem St {s:List Int} {k x v:Int} (h0:0≤k) (h1:k<s.length) (hx:0≤x):rd (s.set k.toNat v) x=if x=k then v else rd s x:=by
 obtain ⟨i,rfl⟩:=Int.eq_ofNat_of_zero_le h0
 obtain ⟨j,rfl⟩:=Int.eq_ofNat_of_zero_le hx
 simp only [Int.toNat_natCast]
 by_cases hj:j<s.length
 ·rw [Z8 (by simpa using hj),Z8 hj,List.getElem_set]
  by_cases e:i=j
  ·subst e;simp
  ·rw [if_neg e,if_neg (by omega)]
 ·rw [if_neg (by omega)]
  simp [rd,hj]
theorem Dy {s:List Int} {x:Int} (h0:0≤x) (h:rd s x<0):x<s.length:=by
 obtain ⟨j,rfl⟩:=Int.eq_ofNat_of_zero_le h0
 by_cases hj:j<s.length
 ·omega
 ·simp [rd,hj] at h
theorem Ep {s:List Int} {k v:Int} (h0:0≤k) (h1:k<s.length) (h:rd s k<0) (hv:0≤v):neg (s.set k.toNat v)+1=neg s:=by
 obtain ⟨i,rfl⟩:=Int.eq_ofNat_of_zero_le h0
 have hi:i<s.length:=by omega
 rw [Z8 hi] at h
 unfold neg
 rw [Int.toNat_natCast,List.countP_set hi]
 have:0<s.countP (· < 0):=List.countP_pos_iff.2 ⟨_,List.getElem_mem hi,by simpa using h⟩
 rw [if_pos (by simpa using h),if_neg (by simp;omega)]
 omega
def vst (w h:Int) (b:List Int) (a d:Int) (x:List Int×List Int) (p:Nat):List Int×List Int:=
 if link w h b (4*a+p)∧rd x.1 (next w h a p)<0 then (x.1.set (next w h a p).toNat d,x.2++[next w h a p]) else x
def vis (w h:Int) (b:List Int) (a d:Int) (x:List Int×List Int):List Int×List Int:=(List.range 4).foldl (vst w h b a d) x
theorem Wx {w h:Int} {b:List Int} {a:Int} {p:Nat} (hp:p<4) (h1:link w h b (4*a+p)):isN w h a∧isN w h (next w h a p)∧endC w h (4*a+p)=next w h a p:=by
 obtain ⟨⟨⟨h2,h3⟩,_⟩,_⟩:=h1
 have e1:(4*a+(p:Int))/4=a:=by omega
 have e2:(4*a+(p:Int))%4=p:=by omega
 unfold endC
 rw [e1,e2] at h3 ⊢
 exact ⟨⟨by omega,by omega⟩,Iw h3,rfl⟩
structure BExt (w h:Int) (d:Int) (x y:List Int×List Int):Prop where
 len:y.1.length=x.1.length
 old:∀v,0≤v→0≤rd x.1 v→rd y.1 v=rd x.1 v
 new:∀v∈y.2,v∈x.2∨(isN w h v∧rd y.1 v=d)
 sum:neg y.1+y.2.length=neg x.1+x.2.length
 pre:∀v∈x.2,v∈y.2
 low:(∀v∈x.1,-1≤v∧v≤d)→∀v∈y.1,-1≤v∧v≤d
theorem BExt.rfl' {w h d:Int} {x:List Int×List Int}:BExt w h d x x:=⟨rfl,fun _ _ _=>rfl,fun _ h=>.inl h,rfl,fun _ h=>h,fun h=>h⟩
theorem BExt.trans {w h d:Int} {x y z:List Int×List Int} (hd:0≤d) (a:BExt w h d x y) (b:BExt w h d y z):BExt w h d x z where
 len:=b.len.trans a.len
 old v h0 h1:=by
  have e:=a.old v h0 h1
  rw [b.old v h0 (by omega),e]
 new v hv:=by
  rcases b.new v hv with h1|h1
  ·rcases a.new v h1 with h2|⟨h2,h3⟩
   ·exact .inl h2
   ·exact .inr ⟨h2,by rw [b.old v h2.1 (by omega),h3]⟩
  ·exact .inr h1
 sum:=b.sum.trans a.sum
 pre v h:=b.pre v (a.pre v h)
 low h:=b.low (a.low h)
theorem Ru {w h:Int} {b:List Int} {a d:Int} {x:List Int×List Int} {p:Nat} (hp:p<4) (hd:0≤d):BExt w h d x (vst w h b a d x p):=by
 unfold vst
 by_cases hc:link w h b (4*a+p)∧rd x.1 (next w h a p)<0
 ·rw [if_pos hc]
  obtain ⟨h1,h2,h3⟩:=Wx hp hc.1
  have h4:=Dy h2.1 hc.2
  have:=Ep h2.1 h4 hc.2 hd
  refine ⟨by simp,fun v h0 h5=>?_,fun v hv=>?_,by simp;omega,fun v hv=>by simp [hv],fun hl v hv=>?_⟩
  ·simp only
   rw [St h2.1 h4 h0,if_neg (by intro e;subst e;omega)]
  ·simp only [List.mem_append,List.mem_singleton] at hv
   rcases hv with hv|rfl
   ·exact .inl hv
   ·exact .inr ⟨h2,by simp only;rw [St h2.1 h4 h2.1,if_pos rfl]⟩
  ·rcases List.mem_or_eq_of_mem_set hv with h6|rfl
   ·exact hl v h6
   ·omega
 ·rw [if_neg hc];exact BExt.rfl'
theorem Mn {w h:Int} {b:List Int} {a d:Int} (hd:0≤d):∀(l:List Nat) (x:List Int×List Int),(∀p∈l,p<4)→BExt w h d x (l.foldl (vst w h b a d) x)
 | [],x,_=>BExt.rfl'
 | p::l,x,hp=>(Ru (hp p (by simp)) hd).trans hd (Mn hd l _ (fun q hq=>hp q (by simp [hq])))
theorem Rw {w h:Int} {b:List Int} {a d:Int} (hd:0≤d) (x:List Int×List Int):BExt w h d x (vis w h b a d x):=Mn hd _ _ (by simp)
theorem Qbs {w h:Int} {b:List Int} {a d:Int} (s q q':List Int) (p:Nat):vst w h b a d (s,q++q') p=((vst w h b a d (s,q') p).1,q++(vst w h b a d (s,q') p).2):=by
 unfold vst
 simp only
 split<;>simp
theorem Mr {w h:Int} {b:List Int} {a d:Int} (q:List Int):∀(l:List Nat) (s q':List Int),l.foldl (vst w h b a d) (s,q++q')=((l.foldl (vst w h b a d) (s,q')).1,q++(l.foldl (vst w h b a d) (s,q')).2)
 | [],s,q'=>rfl
 | p::l,s,q'=>by
  rw [List.foldl_cons,List.foldl_cons,Qbs]
  exact Mr q l _ _
theorem Dl {w h:Int} {b:List Int} {a d:Int} (q s q':List Int):vis w h b a d (s,q++q')=((vis w h b a d (s,q')).1,q++(vis w h b a d (s,q')).2):=Mr q _ _ _
inductive Run (w h:Int) (b:List Int):List Int→List Int→List Int→Int→List Int→Prop
 | done (s:List Int) (d:Int):Run w h b s [] [] d s
 | level {s:List Int} {x:Int} {nx:List Int} {d:Int} {r:List Int}:Run w h b s (x::nx) [] (d+1) r→Run w h b s [] (x::nx) d r
 | node {s:List Int} {a:Int} {rest nx:List Int} {d:Int} {r:List Int}:Run w h b (vis w h b a d (s,nx)).1 rest (vis w h b a d (s,nx)).2 d r→Run w h b s (a::rest) nx d r
structure Inv (w h:Int) (s rest nx:List Int) (d:Int):Prop where
 len:(s.length:Int)=cnt w h
 fr:∀v∈rest,isN w h v∧rd s v=d-1
 nw:∀v∈nx,isN w h v∧rd s v=d
 one:1≤d
 sum:d+neg s+nx.length≤cnt w h
 low:∀v∈s,-1≤v∧v≤d
theorem Inv.level {w h:Int} {s nx:List Int} {x d:Int} (i:Inv w h s [] (x::nx) d):Inv w h s (x::nx) [] (d+1):=
 ⟨i.len,fun v hv=>⟨(i.nw v hv).1,by have:=(i.nw v hv).2;omega⟩,by simp,by have:=i.one;omega,by have:=i.sum;simp at this ⊢;omega,fun v hv=>by have:=i.low v hv;omega⟩
theorem Inv.node {w h:Int} {b s rest nx:List Int} {a d:Int} (i:Inv w h s (a::rest) nx d):Inv w h (vis w h b a d (s,nx)).1 rest (vis w h b a d (s,nx)).2 d:=by
 have h1:=i.one
 have e:=Rw (w:=w) (h:=h) (b:=b) (a:=a) (d:=d) (by omega) (s,nx)
 refine ⟨by rw [e.len];exact i.len,fun v hv=>?_,fun v hv=>?_,h1,?_,e.low i.low⟩
 ·obtain ⟨h2,h3⟩:=i.fr v (by simp [hv])
  exact ⟨h2,by rw [e.old v h2.1 (by simp only;omega)];exact h3⟩
 ·rcases e.new v hv with h2|h2
  ·obtain ⟨h3,h4⟩:=i.nw v h2
   exact ⟨h3,by rw [e.old v h3.1 (by simp only;omega)];exact h4⟩
  ·exact h2
 ·have:=e.sum;have:=i.sum;simp only at *;omega
theorem Qc6 {w h:Int} {b:List Int}:∀(m:Nat) (s rest nx:List Int) (d:Int),3*neg s+2*nx.length+rest.length≤m→Inv w h s rest nx d→∃r,Run w h b s rest nx d r:=by
 intro m
 induction m with
 | zero=>
  intro s rest nx d hm i
  cases rest with
  | nil=>cases nx with
   | nil=>exact ⟨s,.done s d⟩
   | cons x nx=>simp at hm
  | cons a rest=>simp at hm
 | succ m ih=>
  intro s rest nx d hm i
  cases rest with
  | nil=>cases nx with
   | nil=>exact ⟨s,.done s d⟩
   | cons x nx=>
    obtain ⟨r,hr⟩:=ih s (x::nx) [] (d+1) (by simp at hm ⊢;omega) i.level
    exact ⟨r,.level hr⟩
  | cons a rest=>
   have e:=(Rw (w:=w) (h:=h) (b:=b) (a:=a) (d:=d) (by have:=i.one;omega) (s,nx)).sum
   have e2:=(Rw (w:=w) (h:=h) (b:=b) (a:=a) (d:=d) (by have:=i.one;omega) (s,nx))
   have h1:nx.length≤(vis w h b a d (s,nx)).2.length:=by
    have:=Dl (w:=w) (h:=h) (b:=b) (a:=a) (d:=d) nx s []
    rw [List.append_nil] at this;rw [this];simp
   simp only at e
   obtain ⟨r,hr⟩:=ih (vis w h b a d (s,nx)).1 rest (vis w h b a d (s,nx)).2 d (by simp at hm;omega) i.node
   exact ⟨r,.node hr⟩
def start (w h root:Int):List Int:=(List.replicate (cnt w h).toNat (-1)).set root.toNat 0
theorem X5 {w h root:Int} (hr:isN w h root):Inv w h (start w h root) [root] [] 1∧((neg (start w h root):Nat):Int)+1=cnt w h:=by
 have hc:=Qm w h
 have hl:root<((List.replicate (cnt w h).toNat (-1:Int)).length:Int):=by have:=hr.2;simp;omega
 have h0:rd (List.replicate (cnt w h).toNat (-1:Int)) root=-1:=by
  have:=Sc hr.1 hl
  exact List.eq_of_mem_replicate this
 have h1:=Ep (v:=0) hr.1 hl (by omega) (by omega)
 have h2:neg (List.replicate (cnt w h).toNat (-1:Int))=(cnt w h).toNat:=by unfold neg;simp [List.countP_replicate]
 rw [h2] at h1
 have h3:((neg (start w h root):Nat):Int)+1=cnt w h:=by unfold start;omega
 refine ⟨⟨by unfold start;simp;omega,fun v hv=>?_,by simp,by omega,by simp;omega,fun v hv=>?_⟩,h3⟩
 ·simp only [List.mem_singleton] at hv
  subst hv
  refine ⟨hr,?_⟩
  unfold start;rw [St hr.1 hl hr.1,if_pos rfl];omega
 ·rcases List.mem_or_eq_of_mem_set hv with h6|rfl
  ·have:=List.eq_of_mem_replicate h6;omega
  ·omega
theorem Run.inv {w h:Int} {b s rest nx:List Int} {d:Int} {r:List Int} (R:Run w h b s rest nx d r):Inv w h s rest nx d→∃d',Inv w h r [] [] d':=by
 induction R with
 | done s d=>exact fun i=>⟨d,i⟩
 | level _ ih=>exact fun i=>ih i.level
 | node _ ih=>exact fun i=>ih i.node
def rootOk (w h:Int) (b:List Int) (root:Int):Prop:=meshOk w h b∧isN w h root
instance (w h:Int) (b:List Int) (root:Int):Decidable (rootOk w h b root):=inferInstanceAs (Decidable (_∧_))
theorem Mo {w h:Int} (b:List Int) {root:Int} (hr:isN w h root):∃r,Run w h b (start w h root) [root] [] 1 r:=Qc6 _ _ _ _ _ (Nat.le_refl _) (X5 hr).1
noncomputable def depths (w h:Int) (b:List Int) (root:Int):List Int:=if H:rootOk w h b root then Classical.choose (Mo b H.2) else []
theorem Yz {w h:Int} {b:List Int} {root:Int} (H:rootOk w h b root):Run w h b (start w h root) [root] [] 1 (depths w h b root):=by
 unfold depths;rw [dif_pos H];exact Classical.choose_spec (Mo b H.2)
theorem Xp {w h:Int} {b:List Int} {root:Int} (H:¬rootOk w h b root):depths w h b root=[]:=dif_neg H
theorem Wz {w h:Int} {b:List Int} {root:Int} (H:rootOk w h b root):(((depths w h b root).length:Nat):Int)=cnt w h∧∀v∈depths w h b root,-1≤v∧v≤16:=by
 obtain ⟨d,i⟩:=(Yz H).inv (X5 H.2).1
 have hc:=Qm w h
 refine ⟨i.len,fun v hv=>?_⟩
 have:=i.low v hv;have:=i.sum;omega
theorem Xh (w h:Int) (b:List Int) (root:Int):(depths w h b root).length≤16:=by
 have hc:=Qm w h
 by_cases H:rootOk w h b root
 ·have:=(Wz H).1;omega
 ·rw [Xp H];simp
theorem Px {w h:Int} {b:List Int} {root:Int} {v:Int} (hv:v∈depths w h b root) : -1≤v∧v≤16:=by
 by_cases H:rootOk w h b root
 ·exact (Wz H).2 v hv
 ·rw [Xp H] at hv;simp at hv
theorem Lo {w h:Int} (h1:okG w h):isN w h 0:=by
 have:=Xr h1
 refine ⟨by omega,?_⟩
 unfold cnt;rw [if_pos h1];omega
def conn (w h:Int) (b:List Int):Prop:=meshOk w h b∧-1∉depths w h b 0
noncomputable instance (w h:Int) (b:List Int):Decidable (conn w h b):=inferInstanceAs (Decidable (_∧_))
noncomputable def depthOf (w h:Int) (b:List Int) (root:Int):Int:=(depths w h b root).foldl max (-1)
noncomputable def better (w h:Int) (b:List Int) (best:Int) (root:Nat):Int:=if depthOf w h b (root:Int)<depthOf w h b best then (root:Int) else best
noncomputable def bestRoot (w h:Int) (b:List Int):Int:=if conn w h b then (List.range (cnt w h).toNat).foldl (better w h b) 0 else -1
theorem M0 {w h:Int} {b:List Int} {best:Int} {root:Nat} (h0:0≤best):0≤better w h b best root:=by
 unfold better;split<;>omega
def toRoot (w h:Int) (b d:List Int) (i:Int) (p:Nat):Prop:=link w h b (4*i+p)∧rd d (next w h i p)=rd d i-1
instance (w h:Int) (b d:List Int) (i:Int) (p:Nat):Decidable (toRoot w h b d i p):=inferInstanceAs (Decidable (_∧_))
def par (w h:Int) (b d:List Int) (i:Int):Int:=
 if rd d i>0 then
  (if toRoot w h b d i 0 then next w h i (0:Nat) else if toRoot w h b d i 1 then next w h i (1:Nat) else if toRoot w h b d i 2 then next w h i (2:Nat) else if toRoot w h b d i 3 then next w h i (3:Nat) else -1)
 else -1
def pars (w h:Int) (b d:List Int):List Int:=(List.range d.length).map fun i:Nat=>par w h b d (i:Int)
noncomputable def parents (w h:Int) (b:List Int) (root:Int):List Int:=pars w h b (depths w h b root)
theorem Y4 (w h:Int) (b:List Int) (root:Int):(parents w h b root).length=(depths w h b root).length:=by simp [parents,pars]
def Hi (d:Int) (x:List Int×List Int):Prop:=∀v∈x.1,v<d∨(v=d∧x.2≠[])
theorem Qdl {w h:Int} {b:List Int} {a d:Int} {x:List Int×List Int} {p:Nat} (hx:Hi d x):Hi d (vst w h b a d x p):=by
 unfold vst
 split
 ·intro v hv
  rcases List.mem_or_eq_of_mem_set hv with h6|rfl
  ·rcases hx v h6 with h7|h7
   ·exact .inl h7
   ·exact .inr ⟨h7.1,by simp⟩
  ·exact .inr ⟨rfl,by simp⟩
 ·exact hx
theorem Iv {w h:Int} {b:List Int} {a d:Int}:∀(l:List Nat) (x:List Int×List Int),Hi d x→Hi d (l.foldl (vst w h b a d) x)
 | [],x,hx=>hx
 | p::l,x,hx=>Iv l _ (Qdl hx)
theorem Run.hi {w h:Int} {b s rest nx:List Int} {d:Int} {r:List Int} (R:Run w h b s rest nx d r):Inv w h s rest nx d→Hi d (s,nx)→∀v∈r,v<cnt w h:=by
 induction R with
 | done s d=>
  intro i hh v hv
  rcases hh v hv with h1|h1
  ·have:=i.sum;simp at this;omega
  ·exact absurd rfl h1.2
 | level _ ih=>
  exact fun i hh=>ih i.level (fun v hv=>by rcases hh v hv with h1|h1<;>exact .inl (by omega))
 | node _ ih=>exact fun i hh=>ih i.node (Iv _ _ hh)
theorem D6 {w h:Int} {b:List Int} {root:Int} (H:rootOk w h b root):∀v∈depths w h b root,v<cnt w h:=by
 refine (Yz H).hi (X5 H.2).1 (fun v hv=>?_)
 have:=(X5 H.2).1.low v hv
 rcases List.mem_or_eq_of_mem_set hv with h6|rfl
 ·have:=List.eq_of_mem_replicate h6;exact .inl (by omega)
 ·exact .inl (by omega)
theorem Mv (w h:Int) (b d:List Int) (i:Int):par w h b d i=-1∨∃p:Nat,p<4∧par w h b d i=next w h i p∧toRoot w h b d i p∧rd d i>0:=by
 unfold par
 by_cases h0:rd d i>0
 ·rw [if_pos h0]
  by_cases e0:toRoot w h b d i 0
  ·rw [if_pos e0];exact .inr ⟨0,by omega,rfl,e0,h0⟩
  rw [if_neg e0]
  by_cases e1:toRoot w h b d i 1
  ·rw [if_pos e1];exact .inr ⟨1,by omega,rfl,e1,h0⟩
  rw [if_neg e1]
  by_cases e2:toRoot w h b d i 2
  ·rw [if_pos e2];exact .inr ⟨2,by omega,rfl,e2,h0⟩
  rw [if_neg e2]
  by_cases e3:toRoot w h b d i 3
  ·rw [if_pos e3];exact .inr ⟨3,by omega,rfl,e3,h0⟩
  rw [if_neg e3];exact .inl rfl
 ·rw [if_neg h0];exact .inl rfl
def Tree (t:List Int) (m:Int→Int):Prop:=∀i:Int,0≤i→i<t.length→m i<t.length∧(rd t i=-1∨(0≤rd t i∧rd t i<t.length∧0≤m (rd t i)∧m (rd t i)+1=m i))
theorem Lx {w h:Int} {b:List Int} {root:Int} (H:rootOk w h b root):Tree (parents w h b root) (rd (depths w h b root)):=by
 have hl:=Y4 w h b root
 obtain ⟨hc,_⟩:=Wz H
 intro i h0 h1
 have h2:i<((depths w h b root).length:Int):=by omega
 refine ⟨by have:=D6 H _ (Sc h0 h2);omega,?_⟩
 have e:rd (parents w h b root) i=par w h b (depths w h b root) i:=by
  obtain ⟨j,rfl⟩:=Int.eq_ofNat_of_zero_le h0
  rw [Z8 (by omega)];simp [parents,pars]
 rw [e]
 rcases Mv w h b (depths w h b root) i with h3|⟨p,hp,h3,h4,h5⟩
 ·exact .inl h3
 ·obtain ⟨_,hn,_⟩:=Wx hp h4.1
  rw [h3]
  refine .inr ⟨hn.1,by have:=hn.2;omega,?_,?_⟩
  ·have:=h4.2;omega
  ·have:=h4.2;omega
def inP (P:List Int) (a:Int):Prop:=0≤a∧a<P.length
instance (P:List Int) (a:Int):Decidable (inP P a):=inferInstanceAs (Decidable (_∧_))
@[simp] theorem Qiy (P:List Int):inP P (-1)=False:=by simp [inP]
def ancN (P:List Int):Nat→Int→List Int→List Int
 | 0,a,out=>if inP P a then [] else if a=-1∧out≠[] then out else []
 | f+1,a,out=>if inP P a then ancN P f (rd P a) (out++[a]) else if a=-1∧out≠[] then out else []
def anc (P:List Int) (a:Int):List Int:=ancN P P.length a []
theorem Bn (P:List Int):∀f a out,(ancN P f a out).length≤out.length+f:=by
 intro f
 induction f with
 | zero=>
  intro a out;unfold ancN;repeat' split
  all_goals simp
 | succ f ih=>
  intro a out;unfold ancN;split
  ·have:=ih (rd P a) (out++[a]);simp at this;omega
  ·split<;>simp
theorem Za (P:List Int) (a:Int):(anc P a).length≤P.length:=by have:=Bn P P.length a [];simpa [anc] using this
theorem Qbx (P:List Int):∀f a out,(∀x∈out,inP P x)→∀x∈ancN P f a out,inP P x:=by
 intro f
 induction f with
 | zero=>
  intro a out ho x hx;unfold ancN at hx;repeat' split at hx
  all_goals first|exact ho x hx|(simp at hx)
 | succ f ih=>
  intro a out ho x hx;unfold ancN at hx;split at hx
  ·rename_i h1
   exact ih _ _ (fun y hy=>by rcases List.mem_append.1 hy with hy|hy;exact ho y hy;rw [List.mem_singleton.1 hy];exact h1) x hx
  ·split at hx
   ·exact ho x hx
   ·simp at hx
theorem Qee {P:List Int} {a x:Int} (h:x∈anc P a):inP P x:=Qbx P P.length a [] (by simp) x h
def common (P:List Int) (a b:Int):Int:=((anc P a).find? (fun x=>decide (x∈anc P b))).getD (-1)
theorem N1 {P:List Int} {a b:Int} (h:∀x∈anc P a,x∉anc P b):common P a b=-1:=by
 unfold common
 rw [List.find?_eq_none.2 (by simpa using h)];rfl
theorem Vr {P:List Int} {a b:Int} (h:0≤common P a b):common P a b∈anc P a∧common P a b∈anc P b:=by
 unfold common at h ⊢
 cases hf:(anc P a).find? (fun x=>decide (x∈anc P b)) with
 | none=>rw [hf] at h;simp at h
 | some u=>
  have h1:=List.mem_of_find?_eq_some hf
  have h2:=List.find?_some hf
  exact ⟨h1,by simpa using h2⟩
def treeNodes (P:List Int) (a b:Int):List Int:=
 if common P a b<0 then [] else (anc P a).take ((anc P a).idxOf (common P a b)+1)++((anc P b).take ((anc P b).idxOf (common P a b))).reverse
theorem Qbv {l:List Int} {q:Int→Bool} {j:Nat} (h:j<l.length) (hq:∀x∈l.take j,q x=false) (hx:q l[j]=true):l.find? q=some l[j]:=by
 have e:l=l.take j++(l[j]::l.drop (j+1)):=by rw [← List.drop_eq_getElem_cons h,List.take_append_drop]
 have e2:=congrArg (List.find? q) e
 rw [e2,List.find?_append,List.find?_eq_none.2 (by simpa using hq),List.find?_cons_of_pos hx];rfl
def chain (t:List Int):Nat→Int→List Int
 | 0,_=>[]
 | k+1,v=>if inP t v then v::chain t k (rd t v) else []
def Ends (t:List Int):Nat→Int→Prop
 | 0,v=>v=-1
 | k+1,v=>v=-1∨(inP t v∧Ends t k (rd t v))
theorem Tree.ends {t:List Int} {m:Int→Int} (T:Tree t m):∀(k:Nat) (v:Int),0≤v→v<t.length→m v<k→(0≤m v∨0<k)→Ends t k v:=by
 intro k
 induction k with
 | zero=>intro v h0 h1 h2 h3;omega
 | succ k ih=>
  intro v h0 h1 h2 _
  refine .inr ⟨⟨h0,h1⟩,?_⟩
  rcases (T v h0 h1).2 with h3|⟨h3,h4,h5,h6⟩
  ·rw [h3];cases k<;>simp [Ends]
  ·exact ih _ h3 h4 (by omega) (.inl h5)
theorem Eh {t:List Int}:∀(k:Nat) (v:Int) (out:List Int),Ends t k v→(out≠[]∨(0≤v∧v<t.length))→ancN t k v out=out++chain t k v:=by
 intro k
 induction k with
 | zero=>
  intro v out he ho
  have he:v=-1:=he
  subst he
  have ho:out≠[]:=ho.resolve_right (by omega)
  simp [ancN,chain,ho]
 | succ k ih=>
  intro v out he ho
  rcases he with rfl|⟨h1,h2⟩
  ·have ho:out≠[]:=ho.resolve_right (by omega)
   simp [ancN,chain,ho]
  ·simp only [ancN,chain]
   rw [if_pos h1,if_pos h1,ih _ _ h2 (.inl (by simp))]
   simp
theorem Dv {t:List Int}:∀(k k':Nat) (v:Int),Ends t k v→Ends t k' v→chain t k v=chain t k' v:=by
 intro k
 induction k with
 | zero=>
  intro k' v h1 h2
  have h1:v=-1:=h1
  subst h1
  cases k' with
  | zero=>rfl
  | succ k'=>simp [chain]
 | succ k ih=>
  intro k' v h1 h2
  cases k' with
  | zero=>
   have h2:v=-1:=h2
   subst h2;simp [chain]
  | succ k'=>
   rcases h1 with rfl|⟨h1,h3⟩
   ·simp [chain]
   ·rcases h2 with rfl|⟨_,h4⟩
    ·simp at h1
    ·simp only [chain];rw [if_pos h1,if_pos h1,ih _ _ h3 h4]
theorem Al {t:List Int} {m:Int→Int} (T:Tree t m) {v:Int} (h0:0≤v) (h1:v<t.length):anc t v=v::(if rd t v=-1 then [] else anc t (rd t v)):=by
 have hE:∀u:Int,0≤u→u<t.length→Ends t t.length u:=fun u a b=>T.ends t.length u a b (T u a b).1 (.inr (by omega))
 have e:∀u:Int,0≤u→u<t.length→anc t u=chain t t.length u:=fun u a b=>by
  have:=Eh t.length u [] (hE u a b) (.inr ⟨a,b⟩);simpa [anc] using this
 rw [e v h0 h1]
 obtain ⟨n,hn⟩:∃n,t.length=n+1:=⟨t.length-1,by omega⟩
 have h2:=hE v h0 h1
 rw [hn] at h2 ⊢
 rcases h2 with h2|⟨_,h3⟩
 ·omega
 simp only [chain]
 rw [if_pos (show inP t v from ⟨h0,h1⟩)]
 rcases (T v h0 h1).2 with h4|⟨h4,h5,_,_⟩
 ·rw [if_pos h4,h4];cases n<;>simp [chain]
 ·rw [if_neg (by omega),e _ h4 h5,Dv n t.length _ h3 (hE _ h4 h5)]
end Go.Proofs.YtlhaeingdonaeaaGreat.V
set_option linter.all false
namespace Go.Proofs.YtlhaeingdonaeaaGreat.V
open Go Go.VM Go.Proofs
set_option maxRecDepth 10000
variable {frz:Nat} {H:Heap}
theorem Qd1 (v:Value) (P:List Int) (a:Int) (hI:IsI H v P) (hl:P.length≤1073741823) :
 vcall C frz 241 [v,.int .i64 a] H=some (.slice (some ⟨H.length,0,some 0⟩) (anc P a).length 0,H++[⟨(anc P a).map (.int .i64),0,3⟩]):=by
 rw [Qb (fn:=Tryz.f241) Tryz.func241 rfl (by kernel_rfl) rfl]
 simp
 refine Xa (fun n t H'=>∃(o:List Int) (g:Nat) (x:Int) (G:Heap),n=P.length-o.length∧t 0=v∧t 5=.slice (some ⟨H.length,0,some g⟩) o.length 0∧t 6=.int .i64 x∧
  H'=H++⟨o.map (.int .i64),g,3⟩::G∧o.length≤P.length∧ancN P (P.length-o.length) x o=anc P a) ?_ (n:=P.length) ⟨[],0,a,[],by simp [anc]⟩
 rintro n t H' ⟨o,g,x,G,rfl,h0,h5,h6,rfl,ho,hw⟩ ih
 have hin:inR 0 x (IntKind.i64.wrap ((P.length:Int)-1))↔inP P x:=by
  rw [w64 (by omega) (by omega)];simp only [inR,inP];omega
 simp [h0,h5,h6,hI.lenA,Qx,Qr,hin]
 refine Qo _ ?_ ?_<;>intro hx
 ·simp [h0,h5,h6,hI.lenA]
  refine Qo _ ?_ ?_<;>intro hf
  ·have hz:anc P a=[]:=by
    rw [← hw,show P.length-o.length=0 by omega,ancN,if_pos hx]
   simp [h0,h5,h6,hz]
  ·have q1:∀L,vindexAddr Tryz.prog (H++L) 24 v (.int .i64 x)=some (elp v x.toNat):=fun L=>hI.idxA (e:=3) (by simp) hx.1 hx.2
   have q2:∀L,vload Tryz.prog (H++L) 3 (elp v x.toNat)=some (.int .i64 (rd P x)):=fun L=>hI.loadA (by simp) (by have:=hx.1;have:=hx.2;omega)
   simp [h0,h5,h6]
   refine Wv (by omega) ?_
   simp [h0,h5,h6,q1,q2]
   refine ih (P.length-(o.length+1)) _ _ ⟨o++[x],g+1,rd P x,_,by simp,by simp [h0],by simp,by simp,by simp;rfl,by simp;omega,?_⟩ (by omega)
   rw [show P.length-o.length=(P.length-(o++[x]).length)+1 by simp;omega,ancN,if_pos hx] at hw
   exact hw
 ·have hz:anc P a=if x=-1∧o≠[] then o else []:=by
   rw [← hw];cases P.length-o.length<;>simp only [ancN,if_neg hx]
  simp [h0,h5,h6]
  refine Wg _ _ ?_ ?_<;>intro h1
  ·simp [h0,h5,h6,h1]
   by_cases ho0:o=[]
   ·simp [h0,h5,h6,h1,ho0,hz]
   ·have:o.length≠0:=fun hh=>ho0 (List.length_eq_zero_iff.1 hh)
    simp [h0,h5,h6,h1,ho0,hz]
  ·simp [h0,h5,h6,h1,hz]
theorem Qh2 (v:Value) (P:List Int) (a:Int) (hI:IsI H v P) (hl:P.length≤1073741823) :
 vcall C frz 262 [v,.int .i64 a] H=some (if anc P a=[] then (.slice none 0 0,H) else (.slice (some ⟨H.length,0,some 0⟩) (anc P a).length 0,H++[⟨(anc P a).map (.int .i64),0,3⟩])):=by
 rw [Qb (fn:=Tryz.f262) Tryz.func262 rfl (by kernel_rfl) rfl]
 simp
 refine Xa (fun n t H'=>∃(o:List Int) (g:Nat) (x:Int) (G:Heap),n=P.length-o.length∧t 0=v∧t 5=.slice (some ⟨H.length,0,some g⟩) o.length 0∧t 6=.int .i64 x∧
  H'=H++⟨o.map (.int .i64),g,3⟩::G∧o.length≤P.length∧ancN P (P.length-o.length) x o=anc P a) ?_ (n:=P.length) ⟨[],0,a,[],by simp [anc]⟩
 rintro n t H' ⟨o,g,x,G,rfl,h0,h5,h6,rfl,ho,hw⟩ ih
 have hin:inR 0 x (IntKind.i64.wrap ((P.length:Int)-1))↔inP P x:=by
  rw [w64 (by omega) (by omega)];simp only [inR,inP];omega
 simp [h0,h5,h6,hI.lenA,Qx,Qr,hin]
 have hz:¬inP P x→anc P a=if x=-1∧o≠[] then o else []:=fun hx=>by
  rw [← hw];cases P.length-o.length<;>simp only [ancN,if_neg hx]
 have hm:¬inP P (-1):=fun hh=>by have:=hh.1;omega
 refine Wg _ _ ?_ ?_<;>intro h1
 ·have hx:¬inP P x:=h1▸hm
  by_cases ho0:o=[]
  ·have:=hz hx
   simp [ho0] at this
   have hm':¬inR 0 (-1) (IntKind.i64.wrap ((P.length:Int)-1)):=fun hh=>by have:=hh.1;omega
   simp [h0,h5,h6,h1,ho0,hI.lenA,Qr,hm',this]
  ·have hol:o.length≠0:=fun hh=>ho0 (List.length_eq_zero_iff.1 hh)
   have:=hz hx
   simp [h1,ho0] at this
   simp [h0,h5,h6,h1,ho0,this]
 ·simp [h0,h5,h6,h1,hI.lenA,Qr,hin]
  refine Wg _ _ ?_ ?_<;>intro hx
  ·simp [h0,h5,h6,hx,hI.lenA]
   refine Qo _ ?_ ?_<;>intro hf
   ·have hz':anc P a=[]:=by
     rw [← hw,show P.length-o.length=0 by omega,ancN,if_pos hx]
    simp [h0,h5,h6,hz']
   ·have q1:∀L,vindexAddr Tryz.prog (H++L) 24 v (.int .i64 x)=some (elp v x.toNat):=fun L=>hI.idxA (e:=3) (by simp) hx.1 hx.2
    have q2:∀L,vload Tryz.prog (H++L) 3 (elp v x.toNat)=some (.int .i64 (rd P x)):=fun L=>hI.loadA (by simp) (by have:=hx.1;have:=hx.2;omega)
    simp [h0,h5,h6]
    refine Wv (by omega) ?_
    simp [h0,h5,h6,q1,q2]
    refine ih (P.length-(o.length+1)) _ _ ⟨o++[x],g+1,rd P x,_,by simp,by simp [h0],by simp,by simp,by simp;rfl,by simp;omega,?_⟩ (by omega)
    rw [show P.length-o.length=(P.length-(o++[x]).length)+1 by simp;omega,ancN,if_pos hx] at hw
    exact hw
  ·have:=hz hx
   simp [h1] at this
   simp [h0,h5,h6,hx,this]
theorem Jt {xs:List Int} {r:Option (Value×Heap)} (h:r=some (if xs=[] then (.slice none 0 0,H) else (.slice (some ⟨H.length,0,some 0⟩) xs.length 0,H++[⟨xs.map (.int .i64),0,3⟩]))):wp r (Made Fl.int 3 H xs):=by
 subst h
 by_cases hx:xs=[]
 ·simp [hx];exact ⟨[],by simp,.inl ⟨rfl,rfl⟩,by simp⟩
 ·simp [hx]
  exact ⟨_,rfl,Ow.new0 rfl (Q5 xs).symm (by simp) rfl,by simp⟩
theorem Ae {xs:List Int} {r:Option (Value×Heap)} (h:r=some (.slice (some ⟨H.length,0,some 0⟩) xs.length 0,H++[⟨xs.map (.int .i64),0,3⟩])):wp r (Made Fl.int 3 H xs):=by
 subst h
 simp
 exact ⟨_,rfl,Ow.new0 rfl (Q5 xs).symm (by simp) rfl,by simp⟩
theorem Dg (v:Value) (P:List Int) (a:Int) (hI:IsI H v P) (hl:P.length≤1073741823):wp (vcall C frz 262 [v,.int .i64 a] H) (Made Fl.int 3 H (anc P a)):=Jt (Qh2 v P a hI hl)
theorem L3 (v:Value) (P:List Int) (a:Int) (hI:IsI H v P) (hl:P.length≤1073741823):wp (vcall C frz 241 [v,.int .i64 a] H) (Made Fl.int 3 H (anc P a)):=Ae (Qd1 v P a hI hl)
theorem Mk {P:List Int} {a b:Int} {i:Nat} (h:i<(anc P a).length) (h1:∀x∈(anc P a).take i,x∉anc P b) (h2:(anc P a)[i]∈anc P b):common P a b=(anc P a)[i]:=by
 unfold common
 rw [Qbv h (by simpa using h1) (by simpa using h2)];rfl
theorem Zq {xs:List Int} {p:Int→Prop} {i:Nat} (h:i<xs.length) (h1:∀x∈xs.take i,p x) (h2:p xs[i]):∀x∈xs.take (i+1),p x:=by
 rw [List.take_succ_eq_append_getElem h]
 intro x hx
 rcases List.mem_append.1 hx with hx|hx
 ·exact h1 x hx
 ·rw [List.mem_singleton.1 hx];exact h2
theorem Bv (v:Value) (P:List Int) (a b:Int) (hI:IsI H v P) (hl:P.length≤1073741823) :
 wp (vcall C frz 261 [v,.int .i64 a,.int .i64 b] H) (fun r _=>r=.int .i64 (common P a b)):=by
 rw [Qb (fn:=Tryz.f261) Tryz.func261 rfl (by kernel_rfl) rfl]
 simp
 refine Qf (Dg v P b hI hl) ?_
 rintro vb _ ⟨L1,rfl,ob,nb⟩
 simp
 refine Qf (Dg v P a (hI.app _) hl) ?_
 rintro va _ ⟨L2,rfl,oa,na⟩
 have ob:=(ob.app (L:=L2)).rd.isI
 have oa:=oa.rd.isI
 have hla:=Za P a
 have hlb:=Za P b
 simp only [List.append_assoc] at oa ob
 simp [oa.len]
 refine Qk (fun n t H'=>∃i:Nat,n=(anc P a).length-i∧i≤(anc P a).length∧t 7=vb∧t 15=va∧t 16=.int .i64 (anc P a).length∧t 17=.int .i64 i∧H'=H++(L1++L2)∧∀x∈(anc P a).take i,x∉anc P b) ?_ (n:=(anc P a).length) ⟨0,by simp⟩
 rintro n t H' ⟨i,rfl,hi,h7,h15,h16,h17,rfl,hj⟩ ih
 simp [h7,h15,h16,h17]
 refine Qc ?_ ?_<;>intro h5
 ·simp [h7,h15,h16,h17,h5,oa.idx,oa.load,Qu,Z3 _ _ _ ob (by omega)]
  refine Qc ?_ ?_<;>intro h6
  ·simp [h7,h15,h16,h17,h5,h6]
   exact (Mk h5 hj h6).symm
  ·simp [h7,h15,h16,h17,h5,h6]
   refine ih ((anc P a).length-(i+1)) _ _ ⟨i+1,rfl,by omega,by simp [h7],by simp [h15],by simp [h16],?_,rfl,Zq h5 hj h6⟩ (by omega)
   simp;rw [w64 (by omega) (by omega)]
 ·have:i=(anc P a).length:=by omega
  subst this
  simp
  rw [List.take_length] at hj
  rw [N1 hj]
theorem Bw (v:Value) (P:List Int) (a b:Int) (hI:IsI H v P) (hl:P.length≤1073741823):vcall C frz 261 [v,.int .i64 a,.int .i64 b] H=some (.int .i64 (common P a b),H):=
 (Bv v P a b hI hl).exact (by simp) rfl
theorem Dq (v:Value) (P:List Int) (a b:Int) (hI:IsI H v P) (hl:P.length≤1073741823) :
 wp (vcall C frz 240 [v,.int .i64 a,.int .i64 b] H) (fun r _=>r=.int .i64 (common P a b)):=by
 rw [Qb (fn:=Tryz.f240) Tryz.func240 rfl (by kernel_rfl) rfl]
 simp
 refine Qf (L3 v P a hI hl) ?_
 rintro va _ ⟨L1,rfl,oa,na⟩
 simp
 refine Qf (L3 v P b (hI.app _) hl) ?_
 rintro vb _ ⟨L2,rfl,ob,nb⟩
 have oa:=(oa.app (L:=L2)).rd.isI
 have ob:=ob.rd.isI
 have hla:=Za P a
 have hlb:=Za P b
 simp only [List.append_assoc] at oa ob
 simp
 refine Qk (fun n t H'=>∃i:Nat,n=(anc P a).length-i∧i≤(anc P a).length∧t 7=va∧t 8=vb∧t 9=.int .i64 i∧H'=H++(L1++L2)∧∀x∈(anc P a).take i,x∉anc P b) ?_ (n:=(anc P a).length) ⟨0,by simp⟩
 rintro n t H' ⟨i,rfl,hi,h7,h8,h9,rfl,hj⟩ ih
 simp [h7,h8,h9,oa.len]
 refine Qc ?_ ?_<;>intro h5
 ·simp [h7,h8,h9,h5,oa.idx,oa.load,Qu,Qah _ _ _ ob (by omega)]
  refine Qc ?_ ?_<;>intro h6
  ·simp [h7,h8,h9,h5,h6,oa.idx,oa.load,Qu]
   exact (Mk h5 hj h6).symm
  ·simp [h7,h8,h9,h5,h6]
   refine ih ((anc P a).length-(i+1)) _ _ ⟨i+1,rfl,by omega,by simp [h7],by simp [h8],?_,rfl,Zq h5 hj h6⟩ (by omega)
   simp;rw [w64 (by omega) (by omega)]
 ·have:i=(anc P a).length:=by omega
  subst this
  simp
  rw [List.take_length] at hj
  rw [N1 hj]
theorem D8 (v:Value) (P:List Int) (a b:Int) (hI:IsI H v P) (hl:P.length≤1073741823):vcall C frz 240 [v,.int .i64 a,.int .i64 b] H=some (.int .i64 (common P a b),H):=
 (Dq v P a b hI hl).exact (by simp) rfl
def flip (xs:List Int) (i:Nat):List Int:=(List.range xs.length).map fun j=>if j<i∨xs.length-i≤j then rd xs ((xs.length-1-j:Nat):Int) else rd xs (j:Int)
theorem Ya (xs:List Int) (i:Nat):(flip xs i).length=xs.length:=by simp [flip]
theorem Zf (xs:List Int) (i j:Nat) (h:j<xs.length):(flip xs i)[j]'(by rw [Ya];exact h)=if j<i∨xs.length-i≤j then xs[xs.length-1-j] else xs[j]:=by
 simp only [flip,List.getElem_map,List.getElem_range]
 split
 ·rw [Z8 (by omega)]
 ·rw [Z8 h]
theorem Cq (xs:List Int):flip xs 0=xs:=by
 apply List.ext_getElem (Ya _ _)
 intro j h1 h2
 rw [Zf _ _ _ h2,if_neg (by omega)]
theorem Az (xs:List Int) (i:Nat) (h:xs.length≤2*i+1):flip xs i=xs.reverse:=by
 apply List.ext_getElem (by rw [Ya,List.length_reverse])
 intro j h1 h2
 rw [Zf _ _ _ (by simpa using h2),List.getElem_reverse]
 split
 ·rfl
 ·congr 1;rw [List.length_reverse] at h2;omega
theorem Ck (xs:List Int) (i:Nat) (h:2*i+1<xs.length):((flip xs i).set i ((flip xs i)[xs.length-1-i]'(by rw [Ya];omega))).set (xs.length-1-i) ((flip xs i)[i]'(by rw [Ya];omega))=flip xs (i+1):=by
 apply List.ext_getElem (by simp [Ya])
 intro j h1 h2
 rw [Ya] at h2
 rw [List.getElem_set,List.getElem_set,Zf _ _ _ h2,Zf _ _ _ (by omega),Zf _ _ _ (by omega),Zf _ _ _ h2]
 by_cases e1:xs.length-1-i=j
 ·subst e1
  rw [if_pos rfl,if_neg (by omega),if_pos (by omega)]
  congr 1;omega
 ·by_cases e2:i=j
  ·subst e2
   rw [if_neg e1,if_pos rfl,if_neg (by omega),if_pos (by omega)]
  ·rw [if_neg e1,if_neg e2]
   by_cases e3:j<i∨xs.length-i≤j
   ·rw [if_pos e3,if_pos (by omega)]
   ·rw [if_neg e3,if_neg (by omega)]
theorem Ci (v:Value) (xs:List Int) (e:TypeId) (h:Ow Fl.int e H v xs) (hl:xs.length≤1073741824) (hf:∀i∈ids v,frz≤i) :
 wp (vcall C frz 263 [v] H) (fun _ H'=>Ow Fl.int e H' v xs.reverse∧Chg H H' (ids v)∧H'.length=H.length):=by
 rw [Qb (fn:=Tryz.f263) Tryz.func263 rfl (by kernel_rfl) rfl]
 simp [h.rd.len]
 refine Qk (fun n t H'=>∃i:Nat,n=xs.length-i∧i≤xs.length∧t 0=v∧t 2=.int .i64 i∧t 3=.int .i64 (xs.length-1-i)∧2*i≤xs.length+1∧Ow Fl.int e H' v (flip xs i)∧Chg H H' (ids v)∧H'.length=H.length) ?_ (n:=xs.length)
  ⟨0,by simp,by omega,by simp,by simp,by simp;exact w64 (by omega) (by omega),by omega,by rw [Cq];exact h,Chg.refl _,rfl⟩
 rintro n t H' ⟨i,rfl,hi,h0,h2,h3,h2i,o,c,l⟩ ih
 simp [h0,h2,h3]
 refine Qc ?_ ?_<;>intro h5
 ·have i1:=o.rd.isI
  have fl:=Ya xs i
  have e1:((xs.length:Int)-1-i).toNat=xs.length-1-i:=by omega
  have e2:((xs.length:Int)-1-i)=((xs.length-1-i:Nat):Int):=by omega
  rw [e2] at h3
  simp [h0,h2,h3,h5]
  rw [Qj (h:=by kernel_rfl)]
  have p1:i<(flip xs i).length:=by omega
  have p2:xs.length-1-i<(flip xs i).length:=by omega
  simp [h0,h2,h3,h5,i1.idx,i1.load,p1,p2,Qu]
  obtain ⟨H1,s1,o1,c1,l1⟩:=o.put1 (P:=Tryz.prog) (frz:=frz) rfl (et:=3) (ag:=false) (by simp) p1 (x:=.int .i64 ((flip xs i)[xs.length-1-i])) rfl rfl rfl hf
  have i2:=o1.rd.isI
  have p3:xs.length-1-i<((flip xs i).set i (flip xs i)[xs.length-1-i]).length:=by simp;omega
  obtain ⟨H2,s2,o2,c2,l2⟩:=o1.put1 (P:=Tryz.prog) (frz:=frz) rfl (et:=3) (ag:=false) (by simp) p3 (x:=.int .i64 ((flip xs i)[i])) rfl rfl rfl hf
  simp [s1,h0,h2,h3,i2.idx,p2,s2]
  refine ih (xs.length-(i+1)) _ _ ⟨i+1,rfl,by omega,by simp [h0],?_,?_,by omega,?_,c.trans (c1.trans c2),by omega⟩ (by omega)
  ·simp;rw [w64 (by omega) (by omega)]
  ·simp;rw [w64 (by omega) (by omega)];omega
  ·rw [Ck xs i (by omega)] at o2;exact o2
 ·simp
  exact ⟨by rw [← Az xs i (by omega)];exact o,c,l⟩
def big:Nat:=1073741824
abbrev dIntS:Dt Value (List Int):=dFlat Fl.int 3 1073741824
def Made2 {V A:Type} (T:Dt V A) (H:Heap) (a:A) (ok:Bool) (r:Value) (H':Heap):Prop:=∃u,r=.tuple #[u,.bool ok]∧T.Made H a u H'
theorem Ue (v:Value) (xs:List Int) (hI:IsI H v xs) (hb:xs.length≤1073741824):wp (vcall C frz 21 [v] H) (dIntS.Made H xs):=by
 rw [R7 v xs hI hb]
 simp
 exact ⟨_,rfl,⟨Ow.new0 rfl (Q5 xs).symm (by simp) rfl,hb⟩,Chg.app _,by simp [dFlat],Qq (.slice (some ⟨H.length,0,some 0⟩) xs.length 0)⟩
theorem Oy {a b:Value} {xs ys:List Int} (ha:dIntS.Ow H a xs) (hb:dIntS.Ow H b ys):vcall C frz 13 [a,b] H=some (.bool (decide (xs=ys)),H):=
 Pr a b xs ys ha.1.rd.isI hb.1.rd.isI ha.2
abbrev MeshD:=Int×Int×List Int
def dMesh:Dt Value MeshD where
 val v a:=.agg #[.int .i64 a.1,.int .i64 a.2.1,v]
 Ow H v a:=dIntS.Ow H v a.2.2
 ids:=VM.ids
 frame h k:=dIntS.frame h k
 lt h:=dIntS.lt h
theorem We (v:Value) (a:MeshD):dMesh.val v a=.agg #[.int .i64 a.1,.int .i64 a.2.1,v]:=rfl
theorem W9 {v:Value} {a:MeshD} (h:dMesh.Ow H v a):VM.one v=true∧v.cells=#[v]:=⟨h.1.rd.one',h.1.rd.cells⟩
theorem W2 {v:Value} {a:List Int} (h:dIntS.Ow H v a):VM.one v=true∧v.cells=#[v]:=⟨h.1.rd.one',h.1.rd.cells⟩
theorem Wl (v:Value) (a:List Int):dIntS.val v a=v:=rfl
theorem Qaa (w h:Int) (v:Value) (b:List Int) (hI:IsI H v b) (hb:b.length≤1073741824):wp (vcall C frz 71 [.agg #[.int .i64 w,.int .i64 h,v]] H) (dMesh.Made H (w,h,b)):=by
 rw [A8 w h v b hI hb]
 simp
 exact ⟨_,rfl,⟨Ow.new0 rfl (Q5 b).symm (by simp) rfl,hb⟩,Chg.app _,by simp [dMesh],Qq (.slice (some ⟨H.length,0,some 0⟩) b.length 0)⟩
theorem Au {a b:Value} {x y:MeshD} (ha:dMesh.Ow H a x) (hb:dMesh.Ow H b y):vcall C frz 81 [dMesh.val a x,dMesh.val b y] H=some (.bool (decide (x=y)),H):=by
 obtain ⟨w,h,b1⟩:=x;obtain ⟨w',h',b2⟩:=y
 rw [We,We]
 have:=Bg (frz:=frz) w h w' h' a b b1 b2 ha.1.rd.isI hb.1.rd.isI ha.2
 rw [this]
 congr 3
 simp [and_assoc]
def dTable:Dt Value (List Int) where
 val v _:=.agg #[v]
 Ow H v a:=dIntS.Ow H v a
 ids:=VM.ids
 frame h k:=dIntS.frame h k
 lt h:=dIntS.lt h
theorem Q9 (v:Value) (a:List Int):dTable.val v a=.agg #[v]:=rfl
theorem Wc {v:Value} {a:List Int} (h:dTable.Ow H v a):VM.one v=true∧v.cells=#[v]:=⟨h.1.rd.one',h.1.rd.cells⟩
theorem Mw (v:Value) (xs:List Int) (n:Int) (hI:IsI H v xs) (h0:0≤n) (h1:n≤1048576) (h2:xs.length≤9223372036854775807) :
 vcall C frz 97 [.agg #[v],.int .i64 n] H=some (.int .i64 (if n<xs.length then -1 else n-xs.length),H):=by
 rw [Qb (fn:=Tryz.f97) Tryz.func97 rfl (by kernel_rfl) rfl]
 simp [T7 _ _ _ (hI.app _) h0 h1 h2,hI.one',hI.cells]
 refine Qo _ ?_ ?_<;>intro h<;>simp [h]
 ·intro hh;omega
theorem Nu (v:Value) (xs:List Int) (hI:IsI H v xs) (hb:xs.length≤1073741824) :
 wp (vcall C frz 124 [.agg #[v]] H) (dTable.Made H xs):=by
 rw [Qb (fn:=Tryz.f124) Tryz.func124 rfl (by kernel_rfl) rfl]
 simp [R7 _ _ (hI.app _) hb,hI.one',hI.cells]
 exact ⟨_,rfl,⟨Ow.new0 rfl (Q5 xs).symm (by simp) rfl,hb⟩,Chg.app _,by simp [dTable],Qq (.slice (some ⟨H.length,0,some 0⟩) xs.length 0)⟩
theorem Nr {a b:Value} {x y:List Int} (ha:dTable.Ow H a x) (hb:dTable.Ow H b y):vcall C frz 148 [dTable.val a x,dTable.val b y] H=some (.bool (decide (x=y)),H):=by
 rw [Q9,Q9]
 rw [Qb (fn:=Tryz.f148) Tryz.func148 rfl (by kernel_rfl) rfl]
 simp [Wc ha,Wc hb,Pr _ _ _ _ (ha.1.rd.isI.app _) (hb.1.rd.isI.app _) ha.2]
 refine Qo _ ?_ ?_<;>intro h0<;>simp [h0]
abbrev ClassesD:=List Int×List Int
def dClasses:Dt (Value×Value) ClassesD where
 val v _:=.agg #[v.1,v.2]
 Ow H v a:=dIntS.Ow H v.1 a.1∧dIntS.Ow H v.2 a.2
 ids v:=VM.ids v.1++VM.ids v.2
 frame h k:=⟨dIntS.frame h.1 fun i hi=>k i (List.mem_append.2 (.inl hi)),dIntS.frame h.2 fun i hi=>k i (List.mem_append.2 (.inr hi))⟩
 lt h i hi:=by
  rcases List.mem_append.1 hi with hi|hi
  ·exact dIntS.lt h.1 i hi
  ·exact dIntS.lt h.2 i hi
theorem Wa (v:Value×Value) (a:ClassesD):dClasses.val v a=.agg #[v.1,v.2]:=rfl
theorem Q7 {v:Value×Value} {a:ClassesD} (h:dClasses.Ow H v a):(VM.one v.1=true∧v.1.cells=#[v.1])∧VM.one v.2=true∧v.2.cells=#[v.2]:=⟨⟨h.1.1.rd.one',h.1.1.rd.cells⟩,h.2.1.rd.one',h.2.1.rd.cells⟩
theorem Jo {a b:Value×Value} {x y:ClassesD} (ha:dClasses.Ow H a x) (hb:dClasses.Ow H b y):vcall C frz 82 [dClasses.val a x,dClasses.val b y] H=some (.bool (decide (x=y)),H):=by
 obtain ⟨x1,x2⟩:=x;obtain ⟨y1,y2⟩:=y;obtain ⟨a1,a2⟩:=a;obtain ⟨b1,b2⟩:=b
 rw [Wa,Wa]
 rw [Qb (fn:=Tryz.f82) Tryz.func82 rfl (by kernel_rfl) rfl]
 have one:=And.intro (Q7 ha) (Q7 hb)
 have e1:=fun F L=>Nr (frz:=F) (H:=H++L) (a:=a1) (b:=b1) (x:=x1) (y:=y1) (Dt.app (T:=dIntS) ha.1) (Dt.app (T:=dIntS) hb.1)
 have e2:=fun F L=>Nr (frz:=F) (H:=H++L) (a:=a2) (b:=b2) (x:=x2) (y:=y2) (Dt.app (T:=dIntS) ha.2) (Dt.app (T:=dIntS) hb.2)
 simp only [Q9] at e1 e2
 simp at one
 simp [one,e1]
 refine Qo _ ?_ ?_<;>intro h0<;>simp [h0,one,e2]
 refine Qo _ ?_ ?_<;>intro h0<;>simp [h0]
theorem I9 (v1 v2:Value) (A B:List Int) (n:Int) (h1:IsI H v1 A) (h2:IsI H v2 B) (h0:0≤n) (hn:n≤1048576) (l1:A.length≤9223372036854775807) (l2:B.length≤9223372036854775807) :
 vcall C frz 53 [.agg #[v1,v2],.int .i64 n] H=some (.int .i64 (if n<(A.length:Int)+(B.length:Int) then -1 else n-((A.length:Int)+(B.length:Int))),H):=by
 rw [Qb (fn:=Tryz.f53) Tryz.func53 rfl (by kernel_rfl) rfl]
 have one:=And.intro (And.intro h1.one' h1.cells) (And.intro h2.one' h2.cells)
 simp [one,Mw _ _ _ (h1.app _) h0 hn (by omega)]
 by_cases g:n<(A.length:Int)
 ·simp [g];omega
 ·have g2:¬n-(A.length:Int)<0:=by omega
  simp [g,g2,one,Mw _ _ _ (h2.app _) (by omega:0≤n-(A.length:Int)) (by omega) (by omega)]
  by_cases g3:n-(A.length:Int)<(B.length:Int)
  ·simp [g3];omega
  ·have g4:¬n-(A.length:Int)-(B.length:Int)<0:=by omega
   simp [g3,g4]
   rw [if_neg (by omega)];omega
theorem Id (v1 v2:Value) (A B:List Int) (h1:IsI H v1 A) (h2:IsI H v2 B) (l1:A.length≤1073741824) (l2:B.length≤1073741824) :
 wp (vcall C frz 72 [.agg #[v1,v2]] H) (dClasses.Made H (A,B)):=by
 rw [Qb (fn:=Tryz.f72) Tryz.func72 rfl (by kernel_rfl) rfl]
 have one:=And.intro (And.intro h1.one' h1.cells) (And.intro h2.one' h2.cells)
 simp [one]
 refine Qf (Nu v1 A (h1.app _) l1) ?_
 rintro _ H1 ⟨u1,rfl,o1,c1,n1,d1⟩
 have b0:H1[H.length]? = some ⟨[v1,v2],0,30⟩:=Qa (by simp) c1 (by simp)
 have bR:H1[H.length+1]? = some ⟨[.slice none 0 0,.slice none 0 0],0,45⟩:=Qa (by simp) c1 (by simp)
 have b1:H1[H.length+2]? = some ⟨[.slice none 0 0,.slice none 0 0],0,45⟩:=Qa (by simp) c1 (by simp)
 have lc:=c1.1
 simp at n1 lc
 have onu:=Wc o1
 have hF:H.length≤H.length+2:=by omega
 have hF1:H.length≤H.length+1:=by omega
 have e1:Chg H1 (H1.set (H.length+2) ⟨[u1,.slice none 0 0],0,45⟩) [H.length+2]:=Qe _ _
 have cH1:Chg H (H1.set (H.length+2) ⟨[u1,.slice none 0 0],0,45⟩) []:=((Chg.app []).trans c1).trans' e1 (fun i hi=>.inr (by simp at hi;omega))
 have p1:=Qg (r':=⟨[u1,.slice none 0 0],0,45⟩) b1
 have p0:=Qa b0 e1 (by simp)
 have pR:=Qa bR e1 (by simp)
 have o1':=Dt.chg (T:=dTable) o1 e1 (fun i hi hh=>by have:=n1 i hi;simp at hh;omega)
 simp [Q9,VM.look,b0,b1,onu,one,hF]
 generalize H1.set (H.length+2) ⟨[u1,.slice none 0 0],0,45⟩=H2 at *
 try simp [VM.look,p0,one]
 refine Qf (Nu v2 B (Rd.isI (h2.rd.chg cH1 (by simp))) l2) ?_
 rintro _ H3 ⟨u2,rfl,o2,c2,n2,d2⟩
 have b1:=Qa p1 c2 (by simp)
 have bR:=Qa pR c2 (by simp)
 have l2':=cH1.1
 have lu:=dTable.lt o1'
 have onu2:=Wc o2
 have o3:=Dt.chg0 (T:=dTable) o1' c2
 have e2:Chg H3 (H3.set (H.length+2) ⟨[u1,u2],0,45⟩) [H.length+2]:=Qe _ _
 have g1:=Qg (r':=⟨[u1,u2],0,45⟩) b1
 have bR:=Qa bR e2 (by simp)
 have hlt:=Qt p1
 have o4:=Dt.chg (T:=dTable) o3 e2 (fun i hi hh=>by have:=n1 i hi;simp at hh;omega)
 have o5:=Dt.chg (T:=dTable) o2 e2 (fun i hi hh=>by have:=n2 i hi;simp at hh;omega)
 have cH4:=(cH1.trans c2).trans' e2 (fun i hi=>.inr (by simp at hi;omega))
 simp [Q9,VM.look,b1,onu,onu2,hF]
 generalize H3.set (H.length+2) ⟨[u1,u2],0,45⟩=H4 at *
 have gR:=Qg (r':=⟨[u1,u2],0,45⟩) bR
 simp [VM.look,g1,bR,onu,onu2,hF1,gR]
 refine ⟨(u1,u2),rfl,⟨Dt.chg (T:=dTable) o4 (Qe _ _) (fun i hi hh=>by have:=n1 i hi;simp at hh;omega),Dt.chg (T:=dTable) o5 (Qe _ _) (fun i hi hh=>by have:=n2 i hi;simp at hh;omega)⟩,cH4.trans' (Qe _ _) (fun i hi=>.inr (by simp at hi;omega)),fun i hi=>?_,?_⟩
 ·rcases List.mem_append.1 hi with hi|hi
  ·have:=n1 i hi;omega
  ·have:=n2 i hi;omega
 ·exact List.nodup_append.2 ⟨d1,d2,fun a ha b hb e=>by have:=lu a ha;have:=n2 b hb;omega⟩
abbrev FlitD:=Int×Int×Int×Bool×Bool
def flF:Fl FlitD:=⟨5,fun a=>[.int .i64 a.1,.int .i64 a.2.1,.int .i64 a.2.2.1,.bool a.2.2.2.1,.bool a.2.2.2.2],fun _=>rfl⟩
@[simp] theorem Y3:flF.n=5:=rfl
theorem Wn (a:FlitD):flF.f a=[.int .i64 a.1,.int .i64 a.2.1,.int .i64 a.2.2.1,.bool a.2.2.2.1,.bool a.2.2.2.2]:=rfl
abbrev knF:=Kn.pair (Kn.int .i64) (Kn.pair (Kn.int .i64) (Kn.pair (Kn.int .i64) (Kn.pair Kn.bool Kn.bool)))
theorem Fm {H:Heap} {x:FlitD} {vs:List Value} (h:knF.Is H x vs):vs=flF.f x:=by
 obtain ⟨v1,v2,rfl,h1,w1,w2,rfl,h2,y1,y2,rfl,h3,z1,z2,rfl,h4,h5⟩:=h
 simp only [Kn.int,Kn.bool] at h1 h2 h3 h4 h5
 rw [h1,h2,h3,h4,h5];rfl
theorem Oc {α:Type} {D:Fl α}:∀(xs:List α) (l:List Value),(∀j x,xs[j]? = some x→(l.drop (j*D.n)).take D.n=D.f x)→l.take (xs.length*D.n)=cellsOf D xs
 | [],l,_=>by simp
 | x::xs,l,h=>by
  have h0:=h 0 x rfl
  simp at h0
  have h1:=Oc xs (l.drop D.n) fun j y hj=>by
   have:=h (j+1) y (by simpa using hj)
   rwa [Nat.succ_mul,Nat.add_comm,← List.drop_drop] at this
  rw [List.length_cons,Nat.succ_mul,Nat.add_comm,List.take_add,h0,h1,Wq]
theorem IsS.rd_of {α:Type} {d:Kn α} {D:Fl α} (hz:d.sz=D.n) (hd:∀{H x vs},d.Is H x vs→vs=D.f x) {v:Value} {xs:List α} (h:IsS d H v xs):Rd D H v xs:=by
 rcases h with h|⟨id,off,r,h1,h2,h3,h4⟩
 ·exact .inl h
 ·rw [hz] at h3 h4
  exact .inr ⟨id,off,r,h1,h2,Oc xs _ fun j x hj=>by rw [List.drop_drop];exact hd (h4 j x hj),h3⟩
theorem IsS.rdL_of {α:Type} {d:Kn α} {D:Fl α} (hd:∀{v xs},IsS d H v xs→Rd D H v xs) {v:Value} {xss:List (List α)} (h:IsS (Kn.slice d) H v xss):∃hs,RdL D H v hs xss:=by
 rcases h with ⟨rfl,rfl⟩|⟨id,off,r,h1,h2,h3,h4⟩
 ·exact ⟨[],.inl ⟨rfl,rfl⟩,rfl,by simp⟩
 ·have hz:(Kn.slice d).sz=1:=rfl
  rw [hz] at h3 h4
  simp only [Nat.mul_one] at h3 h4
  have hl:((r.cells.drop off).take xss.length).length=xss.length:=by simp;omega
  refine ⟨(r.cells.drop off).take xss.length,.inr ⟨id,off,r,by rw [hl];exact h1,h2,by rw [hl,Jx];simp,by rw [hl];simpa using h3⟩,hl,fun j a xs ha hx=>?_⟩
  obtain ⟨u,hu,hs⟩:=h4 j xs hx
  have hj:=(List.getElem?_eq_some_iff.1 hx).1
  have e2:=congrArg (·[0]?) hu
  simp at e2
  rw [List.getElem?_take,if_pos hj,List.getElem?_drop,e2] at ha
  cases ha
  exact hd hs
theorem W6 {α:Type} {D:Fl α} (a:α):∀n,(List.replicate n (D.f a)).flatten=cellsOf D (List.replicate n a)
 | 0=>rfl
 | n+1=>by rw [List.replicate_succ,List.replicate_succ,List.flatten_cons,Wq,W6 a n]
theorem Yw (xs:List FlitD):ones (cellsOf flF xs)=true:=by
 induction xs with
 | nil=>rfl
 | cons a l ih=>rw [Wq];simp [ih,Wn]
theorem Qy {P:Program} {H:Heap} {s:TypeId} {f:Nat} (a:Addr):vfieldAddr P H s f (.pointer (some a))=match VM.look H a with
 | some _=>(match finfo P s f with|some (o,_,_)=>some (.pointer (some ⟨a.block,a.off+o,a.spot⟩))|none=>none)
 | none=>none:=rfl
theorem Ry {α:Type} (xs:List α) (z:α) {i:Nat} (h:i<xs.length):(xs.take i++List.replicate (xs.length-i) z).set i xs[i]=xs.take (i+1)++List.replicate (xs.length-(i+1)) z:=by
 rw [List.set_append_right _ _ (by simp;omega),List.take_succ_eq_append_getElem h]
 have e:xs.length-i=(xs.length-(i+1))+1:=by omega
 have e2:i-(xs.take i).length=0:=by simp;omega
 rw [e,List.replicate_succ,e2,List.set_cons_zero,List.append_assoc];rfl
theorem Aj (x:FlitD):vcall C frz 168 [.agg (flF.f x).toArray] H=some (.agg (flF.f x).toArray,H):=by
 obtain ⟨p,t,c,h,l⟩:=x
 rw [Qb (fn:=Tryz.f168) Tryz.func168 rfl (by kernel_rfl) rfl]
 simp [Wn]
theorem D9 (v:Value) (xs:List FlitD) (hI:Rd flF H v xs) (hb:xs.length≤1073741824) :
 wp (vcall C frz 125 [v] H) (fun r H'=>Ow flF 148 H' r xs∧(∀i∈ids r,H.length≤i)∧Chg H H' []):=by
 rw [Qb (fn:=Tryz.f125) Tryz.func125 rfl (by kernel_rfl) rfl]
 simp [hI.len]
 refine Wh (by omega) ?_
 refine Qk (fun n t H'=>∃i:Nat,n=xs.length-i∧i≤xs.length∧t 0=v∧t 3=.slice (some ⟨H.length,0,some 0⟩) xs.length 0∧t 4=.int .i64 i∧
  Ow flF 148 H' (.slice (some ⟨H.length,0,some 0⟩) xs.length 0) (xs.take i++List.replicate (xs.length-i) (0,0,0,false,false))∧Chg H H' []) ?_ (n:=xs.length)
  ⟨0,by simp,by omega,by simp,by simp,by simp,Ow.new0 rfl (W6 (D:=flF) (0,0,0,false,false) _) (by rw [W6 (D:=flF) (0,0,0,false,false)];exact Yw _) (by simp),Chg.app _⟩
 rintro n t H' ⟨i,rfl,hi,h0,h3,h4,o,c⟩ ih
 have rd:=hI.chg c (by simp)
 simp [h0,h3,h4,rd.len]
 refine Qc ?_ ?_<;>intro h
 ·have h':i<xs.length:=by omega
  have q1:=rd.idx (P:=Tryz.prog) (ty:=139) (e:=197) (by simp) (i:=(i:Int)) (by omega) (by omega)
  have q2:=rd.load (P:=Tryz.prog) (e:=197) (by simp) h'
  have hl:(xs.take i++List.replicate (xs.length-i) ((0,0,0,false,false):FlitD)).length=xs.length:=by simp;omega
  have q3:=o.rd.idx (P:=Tryz.prog) (ty:=145) (e:=148) (by simp) (i:=(i:Int)) (by omega) (by omega)
  obtain ⟨H2,s1,o1,c1,l1⟩:=o.store (P:=Tryz.prog) (frz:=H.length) (et:=148) (ag:=true) (x:=.agg (flF.f xs[i]).toArray) (by simp) (j:=i) (y:=xs[i]) (by omega) (by simp [Value.cells]) (by simp [Wn]) (by simp)
  simp only [Int.toNat_natCast,Y3] at q1 q2 q3 s1
  simp [h0,h3,h4,q1,q2,Aj,q3,s1]
  refine ih (xs.length-(i+1)) _ _ ⟨i+1,rfl,by omega,by simp [h0],by simp [h3],?_,?_,c.trans' c1 (by simp)⟩ (by omega)
  ·simp;rw [w64 (by omega) (by omega)]
  ·rw [Ry _ _ h'] at o1;exact o1
 ·have:i=xs.length:=by omega
  subst this
  simp [h0,h3,h4]
  exact ⟨by simpa using o,c⟩
theorem Ch (v:Value) (xs:List FlitD) (n:Int) (hI:Rd flF H v xs) (h0:0≤n) (h1:n≤1048576) (h2:xs.length≤9223372036854775807) :
 vcall C frz 98 [v,.int .i64 n] H=some (.int .i64 (if n<xs.length then -1 else n-xs.length),H):=by
 rw [Qb (fn:=Tryz.f98) Tryz.func98 rfl (by kernel_rfl) rfl]
 simp [hI.len]
 rw [w64 (by omega) (by omega)]
 refine Qo _ ?_ ?_<;>intro h<;>simp [h]
 ·intro hh;omega
 ·intro hh;omega
theorem B5 (x y:FlitD):vcall C frz 185 [.agg (flF.f x).toArray,.agg (flF.f y).toArray] H=some (.bool (decide (x=y)),H):=by
 obtain ⟨p,t,c,h,l⟩:=x
 obtain ⟨p',t',c',h',l'⟩:=y
 rw [Qb (fn:=Tryz.f185) Tryz.func185 rfl (by kernel_rfl) rfl]
 simp [Wn]
 by_cases e1:p=p'
 ·by_cases e2:t=t'
  ·by_cases e3:c=c'
   ·cases h<;>cases h'<;>cases l<;>cases l'<;>simp [e1,e2,e3]
   ·simp [e1,e2,e3]
  ·simp [e1,e2]
 ·simp [e1]
theorem C3 (a b:Value) (xs ys:List FlitD) (ha:Rd flF H a xs) (hb:Rd flF H b ys) (hl:xs.length≤1073741824) :
 vcall C frz 149 [a,b] H=some (.bool (decide (xs=ys)),H):=by
 refine wp.exact (by simp) ?_ rfl
 rw [Qb (fn:=Tryz.f149) Tryz.func149 rfl (by kernel_rfl) rfl]
 simp [ha.len,hb.len]
 refine Qc ?_ ?_<;>intro h0<;>simp [h0]
 ·refine Qk (fun n t H'=>∃i:Nat,n=xs.length-i∧i≤xs.length∧t 0=a∧t 1=b∧t 5=.int .i64 i∧H'=H∧xs.take i=ys.take i) ?_ (n:=xs.length) ⟨0,rfl,by omega,by simp,by simp,by simp,rfl,by simp⟩
  rintro n t H' ⟨i,rfl,hi,h1,h2,h3,rfl,h4⟩ ih
  simp [h1,h2,h3,ha.len]
  refine Qc ?_ ?_<;>intro h
  ·have hx:i<xs.length:=by omega
   have hy:i<ys.length:=by omega
   have q1:=ha.idx (P:=Tryz.prog) (ty:=145) (e:=148) (by simp) (i:=(i:Int)) (by omega) (by omega)
   have q2:=ha.load (P:=Tryz.prog) (e:=148) (by simp) hx
   have q3:=hb.idx (P:=Tryz.prog) (ty:=145) (e:=148) (by simp) (i:=(i:Int)) (by omega) (by omega)
   have q4:=hb.load (P:=Tryz.prog) (e:=148) (by simp) hy
   simp only [Int.toNat_natCast,Y3] at q1 q2 q3 q4
   simp [h1,h2,h3]
   rw [Qj (h:=by kernel_rfl)]
   simp [h1,h2,h3,q1,q2,q3,q4,B5]
   refine Qc ?_ ?_<;>intro h5
   ·simp [h1,h2,h3]
    refine ih (xs.length-(i+1)) _ _ ⟨i+1,rfl,by omega,by simp [h1],by simp [h2],?_,rfl,?_⟩ (by omega)
    ·simp;rw [w64 (by omega) (by omega)]
    ·rw [List.take_succ_eq_append_getElem hx,List.take_succ_eq_append_getElem hy,h4];simp [h5]
   ·simp [h1,h2,h3]
    intro hh;subst hh;simp at h5
  ·have:i=xs.length:=by omega
   subst this
   simp [h1,h2,h3]
   rw [List.take_length,List.take_of_length_le (by omega)] at h4
   exact h4
 ·intro hh;exact h0 (by rw [hh])
abbrev SSD:=List (List FlitD)
abbrev SSV:=Value×List Value
def dSS:Dt SSV SSD where
 val v _:=v.1
 Ow H v a:=OwL flF 148 145 H v.1 v.2 a∧a.length≤2097152∧∀xs∈a,xs.length≤67108864
 ids v:=idsL v.1 v.2
 frame h k:=⟨h.1.frame k,h.2⟩
 lt h:=h.1.lt
def tot (xss:SSD):Nat:=xss.length+(xss.map List.length).sum
theorem Gb {α:Type} (xss:List (List α)) {i:Nat} (h:i<xss.length):((xss.take (i+1)).map List.length).sum=((xss.take i).map List.length).sum+xss[i].length:=by
 rw [List.take_succ_eq_append_getElem h,List.map_append,List.sum_append];simp
theorem Ip {α:Type} (xss:List (List α)) (i:Nat):((xss.take i).map List.length).sum≤(xss.map List.length).sum:=by
 conv=>rhs;rw [← List.take_append_drop i xss,List.map_append,List.sum_append]
 omega
theorem P7 {α:Type} (xss:List (List α)):∀xs∈xss,xs.length≤(xss.map List.length).sum:=by
 induction xss with
 | nil=>simp
 | cons a l ih=>
  intro xs hx;rcases List.mem_cons.1 hx with rfl|hx
  ·simp
  ·have:=ih xs hx;simp;omega
theorem Wf {α:Type} {D:Fl α} {v:Value} {hs:List Value} {xss:List (List α)} (h:RdL D H v hs xss) {ty e:TypeId} (he:eltp Tryz.prog ty=some (e,1)) (ht:tsz Tryz.prog e=some (false,1)) {j:Nat} (hj:j<xss.length) :
 ∃a,hs[j]? = some a∧vindexAddr Tryz.prog H ty v (.int .i64 j)=some (elp v j)∧vload Tryz.prog H e (elp v j)=some a∧Rd D H a xss[j]:=by
 have hj':j<hs.length:=by rw [h.2.1];exact hj
 have q1:=h.1.idx (P:=Tryz.prog) (ty:=ty) (e:=e) (by simpa using he) (i:=(j:Int)) (by omega) (by omega)
 have q2:=h.1.cell1 (P:=Tryz.prog) rfl ht hj'
 refine ⟨hs[j],by simp [hj'],by simpa using q1,by simpa using q2,h.2.2 j _ _ (by simp [hj']) (by simp [hj])⟩
theorem Wu {l m:List Nat} {n:Nat} (h1:l.Nodup) (h2:m.Nodup) (h3:∀i∈l,i<n) (h4:∀i∈m,n≤i):(l++m).Nodup:=
 List.nodup_append.2 ⟨h1,h2,fun a ha b hb e=>by have:=h3 a ha;have:=h4 b hb;omega⟩
theorem Td (v:Value) (hs:List Value) (xss:SSD) (n:Int) (hI:RdL flF H v hs xss) (h0:0≤n) (h1:n≤1048576) (h2:xss.length≤9223372036854775807) (h3:∀xs∈xss,xs.length≤9223372036854775807) :
 vcall C frz 54 [v,.int .i64 n] H=some (.int .i64 (if n<tot xss then -1 else n-tot xss),H):=by
 refine wp.exact (by simp) ?_ rfl
 rw [Qb (fn:=Tryz.f54) Tryz.func54 rfl (by kernel_rfl) rfl]
 have hl:=hI.2.1
 have ht:tot xss=xss.length+(xss.map List.length).sum:=rfl
 simp [hI.1.len,hl]
 rw [w64 (by omega) (by omega)]
 refine Qc ?_ ?_<;>intro h
 ·simp [h]
  omega
 ·simp [h]
  refine Qk (fun m t H'=>∃(i:Nat) (q:Nat),m=xss.length-i∧i≤xss.length∧t 0=v∧t 1=.int .i64 (n-xss.length-q)∧t 5=.int .i64 i∧H'=H∧q=((xss.take i).map List.length).sum∧0≤n-xss.length-q) ?_ (n:=xss.length) ⟨0,0,rfl,by omega,by simp,by simp,by simp,rfl,by simp,by omega⟩
  rintro m t H' ⟨i,q,rfl,hi,t0,t1,t5,rfl,hq,hq0⟩ ih
  simp [t0,t1,t5,hI.1.len,hl]
  refine Qc ?_ ?_<;>intro g
  ·have hi':i<xss.length:=by omega
   obtain ⟨a,a1,a2,a3,a4⟩:=Wf hI (ty:=31) (e:=139) (by simp) (by simp) hi'
   have sz:=fun F=>Ch (frz:=F) a xss[i] (n-xss.length-q) a4 hq0 (by omega) (h3 _ (List.getElem_mem hi'))
   have st:=Gb xss hi'
   have sl:=Ip xss (i+1)
   rw [← hq] at st
   simp [t0,t1,t5,a2,a3,sz]
   by_cases h5:n-xss.length-(q:Int)<(xss[i].length:Int)
   ·simp [h5]
    omega
   ·have h6:¬n-xss.length-(q:Int)-(xss[i].length:Int)<0:=by omega
    simp [t0,t1,t5,h5,h6]
    refine ih (xss.length-(i+1)) _ _ ⟨i+1,q+xss[i].length,rfl,by omega,by simp [t0],?_,?_,rfl,by omega,by omega⟩ (by omega)
    ·simp;omega
    ·simp;rw [w64 (by omega) (by omega)]
  ·have:i=xss.length:=by omega
   subst this
   rw [List.take_length] at hq
   simp [t0,t1,t5]
   rw [if_neg (by omega),ht];omega
theorem Vt (v:Value) (hs:List Value) (xss:SSD) (hI:RdL flF H v hs xss) (hb:xss.length≤2097152) (hb2:∀xs∈xss,xs.length≤67108864) :
 wp (vcall C frz 73 [v] H) (dSS.Made H xss):=by
 rw [Qb (fn:=Tryz.f73) Tryz.func73 rfl (by kernel_rfl) rfl]
 have hl:=hI.2.1
 simp [hI.1.len,hl]
 refine Wh (by omega) ?_
 refine Qk (fun n t H'=>∃(i:Nat) (gs:List Value),n=xss.length-i∧i≤xss.length∧t 0=v∧t 3=.slice (some ⟨H.length,0,some 0⟩) xss.length 0∧t 4=.int .i64 i∧gs.length=i∧
  Ow Fl.val 145 H' (.slice (some ⟨H.length,0,some 0⟩) xss.length 0) (gs++List.replicate (xss.length-i) (.slice none 0 0))∧Chg H H' []∧
  (∀(j:Nat) (a:Value) (xs:List FlitD),gs[j]? = some a→xss[j]? = some xs→Ow flF 148 H' a xs)∧(∀x∈gs.flatMap ids,H.length+1≤x∧x<H'.length)∧(gs.flatMap ids).Nodup) ?_ (n:=xss.length)
  ⟨0,[],by simp,by omega,by simp,by simp,by simp,rfl,Ow.new0 rfl (by simp [W6 (D:=Fl.val) (.slice none 0 0)]) (by simp [ones]) (by simp),Chg.app _,by simp,by simp,by simp⟩
 rintro n t H' ⟨i,gs,rfl,hi,h0,h3,h4,hgl,o,c,hin,hids,hnd⟩ ih
 have rd:=hI.chg c (by simp)
 have l0:=c.1
 have lo:=o.lt H.length (by simp)
 simp [h0,h3,h4,rd.1.len,hl]
 refine Qc ?_ ?_<;>intro h
 ·have h':i<xss.length:=by omega
  obtain ⟨a,a1,a2,a3,a4⟩:=Wf rd (ty:=31) (e:=139) (by simp) (by simp) h'
  simp [h0,h3,h4,a2,a3]
  refine Qf (D9 a xss[i] a4 (by have:=hb2 _ (List.getElem_mem h');omega)) ?_
  rintro r H1 ⟨or_,nr,c1⟩
  have o':=o.chg c1 (by simp)
  have hll:(gs++List.replicate (xss.length-i) (Value.slice none 0 0)).length=xss.length:=by simp;omega
  have q3:=o'.rd.idx (P:=Tryz.prog) (ty:=46) (e:=145) (by simp) (i:=(i:Int)) (by omega) (by omega)
  have lr:=or_.lt
  obtain ⟨H2,s1,o1,c2,l2⟩:=o'.put1 (P:=Tryz.prog) (frz:=H.length) rfl (et:=145) (ag:=false) (x:=r) (by simp) (j:=i) (y:=r) (by omega) or_.rd.cells or_.rd.one' rfl (by simp)
  simp only [Int.toNat_natCast,Fl.val_n,Nat.mul_one] at q3
  have one:=And.intro or_.rd.one' or_.rd.cells
  have l1:=c1.1
  simp [h0,h3,h4,q3,s1]
  have e1:(gs++List.replicate (xss.length-i) (Value.slice none 0 0)).set i r=(gs++[r])++List.replicate (xss.length-(i+1)) (Value.slice none 0 0):=by
   have e:xss.length-i=(xss.length-(i+1))+1:=by omega
   rw [List.set_append_right _ _ (by omega),e,List.replicate_succ,show i-gs.length=0 by omega,List.set_cons_zero];simp
  rw [e1] at o1
  refine ih (xss.length-(i+1)) _ _ ⟨i+1,gs++[r],rfl,by omega,by simp [h0],by simp [h3],?_,by simp [hgl],o1,(c.trans c1).trans' c2 (by simp),fun j a xs ha hx=>?_,fun x hx=>?_,?_⟩ (by omega)
  ·simp;rw [w64 (by omega) (by omega)]
  ·by_cases hj:j<gs.length
   ·rw [List.getElem?_append_left hj] at ha
    have ho:=(hin j a xs ha hx).chg c1 (by simp)
    refine ho.chg c2 (fun y hy hh=>?_)
    have:=hids y (List.mem_flatMap.2 ⟨a,List.mem_of_getElem? ha,hy⟩)
    simp at hh;omega
   ·rw [List.getElem?_append_right (by omega)] at ha
    have hj2:=(List.getElem?_eq_some_iff.1 ha).1
    simp at hj2
    have:j=i:=by omega
    subst this
    rw [show j-gs.length=0 by omega] at ha
    simp at ha
    subst ha
    rw [List.getElem?_eq_getElem h'] at hx
    cases hx
    exact or_.chg c2 (fun y hy hh=>by have:=nr y hy;simp at hh;omega)
  ·rw [List.flatMap_append] at hx
   rcases List.mem_append.1 hx with hx|hx
   ·have:=hids x hx;omega
   ·simp at hx
    have:=nr x hx;have:=lr x hx;omega
  ·rw [List.flatMap_append]
   refine Wu hnd (by simpa using Qq r) (n:=H'.length) (fun x hx=>(hids x hx).2) (fun x hx=>?_)
   simp at hx;exact nr x hx
 ·have:i=xss.length:=by omega
  subst this
  simp [h0,h3,h4]
  refine ⟨(.slice (some ⟨H.length,0,some 0⟩) xss.length 0,gs),rfl,⟨⟨by simpa using o,hgl,hin⟩,hb,hb2⟩,c,fun x hx=>?_,?_⟩
  ·rcases List.mem_append.1 hx with hx|hx
   ·simp at hx;omega
   ·have:=hids x hx;omega
  ·refine Wu (Qq _) hnd (n:=H.length+1) (by simp) (fun x hx=>(hids x hx).1)
theorem G9 (a b:Value) (hs gs:List Value) (xs ys:SSD) (ha:RdL flF H a hs xs) (hb:RdL flF H b gs ys) (hl:xs.length≤1073741824) (hl2:∀l∈xs,l.length≤1073741824) :
 vcall C frz 83 [a,b] H=some (.bool (decide (xs=ys)),H):=by
 refine wp.exact (by simp) ?_ rfl
 rw [Qb (fn:=Tryz.f83) Tryz.func83 rfl (by kernel_rfl) rfl]
 have la:=ha.2.1
 have lb:=hb.2.1
 simp [ha.1.len,hb.1.len,la,lb]
 refine Qc ?_ ?_<;>intro h0<;>simp [h0]
 ·refine Qk (fun n t H'=>∃i:Nat,n=xs.length-i∧i≤xs.length∧t 0=a∧t 1=b∧t 5=.int .i64 i∧H'=H∧xs.take i=ys.take i) ?_ (n:=xs.length) ⟨0,rfl,by omega,by simp,by simp,by simp,rfl,by simp⟩
  rintro n t H' ⟨i,rfl,hi,h1,h2,h3,rfl,h4⟩ ih
  simp [h1,h2,h3,ha.1.len,la]
  refine Qc ?_ ?_<;>intro h
  ·have hx:i<xs.length:=by omega
   have hy:i<ys.length:=by omega
   obtain ⟨p,_,a2,a3,a4⟩:=Wf ha (ty:=46) (e:=145) (by simp) (by simp) hx
   obtain ⟨q,_,b2,b3,b4⟩:=Wf hb (ty:=46) (e:=145) (by simp) (by simp) hy
   have eq:=fun F=>C3 (frz:=F) p q xs[i] ys[i] a4 b4 (hl2 _ (List.getElem_mem hx))
   simp [h1,h2,h3]
   rw [Qj (h:=by kernel_rfl)]
   simp [h1,h2,h3,a2,a3,b2,b3,eq]
   refine Qc ?_ ?_<;>intro h5
   ·simp [h1,h2,h3]
    refine ih (xs.length-(i+1)) _ _ ⟨i+1,rfl,by omega,by simp [h1],by simp [h2],?_,rfl,?_⟩ (by omega)
    ·simp;rw [w64 (by omega) (by omega)]
    ·rw [List.take_succ_eq_append_getElem hx,List.take_succ_eq_append_getElem hy,h4];simp [h5]
   ·simp [h1,h2,h3]
    intro hh;subst hh;simp at h5
  ·have:i=xs.length:=by omega
   subst this
   simp [h1,h2,h3]
   rw [List.take_length,List.take_of_length_le (by omega)] at h4
   exact h4
 ·intro hh;exact h0 (by rw [hh])
theorem V4 {a b:SSV} {x y:SSD} (ha:dSS.Ow H a x) (hb:dSS.Ow H b y):vcall C frz 83 [a.1,b.1] H=some (.bool (decide (x=y)),H):=
 G9 a.1 b.1 a.2 b.2 x y ha.1.rd hb.1.rd (by have:=ha.2.1;omega) (fun l hl=>by have:=ha.2.2 l hl;omega)
def dAnd {V A W B:Type} (T:Dt V A) (U:Dt W B):Dt (V×W) (A×B) where
 val _ _:=undef
 Ow H v a:=T.Ow H v.1 a.1∧U.Ow H v.2 a.2
 ids v:=T.ids v.1++U.ids v.2
 frame h k:=⟨T.frame h.1 fun i hi=>k i (List.mem_append.2 (.inl hi)),U.frame h.2 fun i hi=>k i (List.mem_append.2 (.inr hi))⟩
 lt h i hi:=by
  rcases List.mem_append.1 hi with hi|hi
  ·exact T.lt h.1 i hi
  ·exact U.lt h.2 i hi
def dNone (A:Type):Dt Unit A where
 val _ _:=undef
 Ow _ _ _:=True
 ids _:=[]
 frame _ _:=trivial
 lt _ i hi:=by simp at hi
abbrev NetD:=MeshD×ClassesD×SSD×List Int×List Int×SSD×SSD×Int
noncomputable instance:DecidableEq NetD:=fun _ _=>Classical.propDecidable _
abbrev NetV:=Value×(Value×Value)×SSV×Value×Value×SSV×SSV×Unit
def dNet0:Dt NetV NetD:=dAnd dMesh (dAnd dClasses (dAnd dSS (dAnd dIntS (dAnd dIntS (dAnd dSS (dAnd dSS (dNone Int)))))))
def netVal (v:NetV) (a:NetD):Value:=
 .agg #[.int .i64 a.1.1,.int .i64 a.1.2.1,v.1,v.2.1.1,v.2.1.2,v.2.2.1.1,v.2.2.2.1,v.2.2.2.2.1,v.2.2.2.2.2.1.1,v.2.2.2.2.2.2.1.1,.int .i64 a.2.2.2.2.2.2.2]
def dNet:Dt NetV NetD:={ dNet0 with val:=netVal }
theorem Qd (v:NetV) (a:NetD):dNet.val v a =
 .agg #[.int .i64 a.1.1,.int .i64 a.1.2.1,v.1,v.2.1.1,v.2.1.2,v.2.2.1.1,v.2.2.2.1,v.2.2.2.2.1,v.2.2.2.2.2.1.1,v.2.2.2.2.2.2.1.1,.int .i64 a.2.2.2.2.2.2.2]:=rfl
theorem Xj {v:SSV} {a:SSD} (h:dSS.Ow H v a):VM.one v.1=true∧v.1.cells=#[v.1]:=⟨h.1.1.rd.one',h.1.1.rd.cells⟩
theorem Qi {v:NetV} {a:NetD} (h:dNet.Ow H v a):(VM.one v.1=true∧v.1.cells=#[v.1])∧(VM.one v.2.1.1=true∧v.2.1.1.cells=#[v.2.1.1])∧(VM.one v.2.1.2=true∧v.2.1.2.cells=#[v.2.1.2])∧(VM.one v.2.2.1.1=true∧v.2.2.1.1.cells=#[v.2.2.1.1])∧
 (VM.one v.2.2.2.1=true∧v.2.2.2.1.cells=#[v.2.2.2.1])∧(VM.one v.2.2.2.2.1=true∧v.2.2.2.2.1.cells=#[v.2.2.2.2.1])∧(VM.one v.2.2.2.2.2.1.1=true∧v.2.2.2.2.2.1.1.cells=#[v.2.2.2.2.2.1.1])∧(VM.one v.2.2.2.2.2.2.1.1=true∧v.2.2.2.2.2.2.1.1.cells=#[v.2.2.2.2.2.2.1.1]):=by
 obtain ⟨h1,h2,h3,h4,h5,h6,h7,_⟩:=h
 exact ⟨W9 h1,(Q7 h2).1,(Q7 h2).2,Xj h3,W2 h4,W2 h5,Xj h6,Xj h7⟩
theorem Yn (xss:SSD):xss.length≤tot xss:=by unfold tot;omega
theorem Yv (xss:SSD):∀x∈xss,x.length≤tot xss:=fun x hx=>by have:=P7 xss x hx;unfold tot;omega
theorem Qbj {a b:NetV} {x y:NetD} (ha:dNet.Ow H a x) (hb:dNet.Ow H b y):vcall C frz 37 [dNet.val a x,dNet.val b y] H=some (.bool (decide (x=y)),H):=by
 have oa:=Qi ha
 have ob:=Qi hb
 obtain ⟨a1,⟨a2,a3⟩,⟨a4,ha4⟩,a5,a6,⟨a7,ha7⟩,⟨a8,ha8⟩,_⟩:=a
 obtain ⟨b1,⟨b2,b3⟩,⟨b4,hb4⟩,b5,b6,⟨b7,hb7⟩,⟨b8,hb8⟩,_⟩:=b
 obtain ⟨⟨w,h,x1⟩,⟨x2,x3⟩,x4,x5,x6,x7,x8,tm⟩:=x
 obtain ⟨⟨w',h',y1⟩,⟨y2,y3⟩,y4,y5,y6,y7,y8,tm'⟩:=y
 obtain ⟨h1,h2,h3,h4,h5,h6,h7,_⟩:=ha
 obtain ⟨k1,k2,k3,k4,k5,k6,k7,_⟩:=hb
 simp only at h1 h2 h3 h4 h5 h6 h7 k1 k2 k3 k4 k5 k6 k7
 obtain ⟨p1,p2,p3,p4,p5,p6,p7,p8⟩:=oa
 obtain ⟨q1,q2,q3,q4,q5,q6,q7,q8⟩:=ob
 simp only at p1 p2 p3 p4 p5 p6 p7 p8 q1 q2 q3 q4 q5 q6 q7 q8
 have e1:=fun F L=>Au (frz:=F) (H:=H++L) (Dt.app h1) (Dt.app k1)
 have e2:=fun F L=>Jo (frz:=F) (H:=H++L) (Dt.app h2) (Dt.app k2)
 have e3:=fun F L=>V4 (frz:=F) (H:=H++L) (Dt.app h3) (Dt.app k3)
 have e4:=fun F L=>Oy (frz:=F) (H:=H++L) (Dt.app h4) (Dt.app k4)
 have e5:=fun F L=>Oy (frz:=F) (H:=H++L) (Dt.app h5) (Dt.app k5)
 have e6:=fun F L=>V4 (frz:=F) (H:=H++L) (Dt.app h6) (Dt.app k6)
 have e7:=fun F L=>V4 (frz:=F) (H:=H++L) (Dt.app h7) (Dt.app k7)
 simp only [We,Wa] at e1 e2
 simp only at e3 e6 e7
 rw [Qd,Qd]
 refine wp.exact (by simp) ?_ rfl
 rw [Qb (fn:=Tryz.f37) Tryz.func37 rfl (by kernel_rfl) rfl]
 simp [p1,p2,p3,p4,p5,p6,p7,p8,q1,q2,q3,q4,q5,q6,q7,q8,e1,-Prod.mk.injEq]
 refine Qc ?_ ?_<;>intro g1<;>simp [g1,p1,p2,p3,p4,p5,p6,p7,p8,q1,q2,q3,q4,q5,q6,q7,q8,e2,-Prod.mk.injEq]
 refine Qc ?_ ?_<;>intro g2<;>simp [g2,p1,p2,p3,p4,p5,p6,p7,p8,q1,q2,q3,q4,q5,q6,q7,q8,e3,-Prod.mk.injEq]
 refine Qc ?_ ?_<;>intro g3<;>simp [g3,p1,p2,p3,p4,p5,p6,p7,p8,q1,q2,q3,q4,q5,q6,q7,q8,e4,-Prod.mk.injEq]
 refine Qc ?_ ?_<;>intro g4<;>simp [g4,p1,p2,p3,p4,p5,p6,p7,p8,q1,q2,q3,q4,q5,q6,q7,q8,e5,-Prod.mk.injEq]
 refine Qc ?_ ?_<;>intro g5<;>simp [g5,p1,p2,p3,p4,p5,p6,p7,p8,q1,q2,q3,q4,q5,q6,q7,q8,e6,-Prod.mk.injEq]
 refine Qc ?_ ?_<;>intro g6<;>simp [g6,p1,p2,p3,p4,p5,p6,p7,p8,q1,q2,q3,q4,q5,q6,q7,q8,e7,-Prod.mk.injEq]
 refine Qc ?_ ?_<;>intro g7<;>simp [g7,p1,p2,p3,p4,p5,p6,p7,p8,q1,q2,q3,q4,q5,q6,q7,q8,e7,-Prod.mk.injEq]
 ·refine Qc ?_ ?_<;>intro g8<;>simp [g8]
 ·exact fun hh=>g7 (congrArg (fun z:NetD=>z.2.2.2.2.2.2.1) hh)
 ·exact fun hh=>g6 (congrArg (fun z:NetD=>z.2.2.2.2.2.1) hh)
 ·exact fun hh=>g5 (congrArg (fun z:NetD=>z.2.2.2.2.1) hh)
 ·exact fun hh=>g4 (congrArg (fun z:NetD=>z.2.2.2.1) hh)
 ·exact fun hh=>g3 (congrArg (fun z:NetD=>z.2.2.1) hh)
 ·exact fun hh=>g2 (congrArg (fun z:NetD=>z.2.1) hh)
 ·exact fun hh=>g1 (congrArg (fun z:NetD=>z.1) hh)
theorem Qbh (w h tm:Int) (u2 u3 u4 u5 u6 u7 u8 u9:Value) (h5 h8 h9:List Value) (b A B own turn:List Int) (buf src arr:SSD)
 (r2:Rd Fl.int H u2 b) (r3:Rd Fl.int H u3 A) (r4:Rd Fl.int H u4 B) (r5:RdL flF H u5 h5 buf) (r6:Rd Fl.int H u6 own) (r7:Rd Fl.int H u7 turn) (r8:RdL flF H u8 h8 src) (r9:RdL flF H u9 h9 arr)
 (l2:b.length≤1073741824) (l3:A.length≤1073741824) (l4:B.length≤1073741824) (l5:buf.length≤2097152) (l5':∀x∈buf,x.length≤67108864) (l6:own.length≤1073741824) (l7:turn.length≤1073741824)
 (l8:src.length≤2097152) (l8':∀x∈src,x.length≤67108864) (l9:arr.length≤2097152) (l9':∀x∈arr,x.length≤67108864) :
 wp (vcall C frz 31 [.agg #[.int .i64 w,.int .i64 h,u2,u3,u4,u5,u6,u7,u8,u9,.int .i64 tm]] H) (dNet.Made H ((w,h,b),(A,B),buf,own,turn,src,arr,tm)):=by
 rw [Qb (fn:=Tryz.f31) Tryz.func31 rfl (by kernel_rfl) rfl]
 have one2:=And.intro r2.one' r2.cells
 have one3:=And.intro r3.one' r3.cells
 have one4:=And.intro r4.one' r4.cells
 have one5:=And.intro r5.1.one' r5.1.cells
 have one6:=And.intro r6.one' r6.cells
 have one7:=And.intro r7.one' r7.cells
 have one8:=And.intro r8.1.one' r8.1.cells
 have one9:=And.intro r9.1.one' r9.1.cells
 have hF:H.length≤H.length+2:=by omega
 have hF1:H.length≤H.length+1:=by omega
 simp [one2,one3,one4,one5,one6,one7,one8,one9]
 obtain ⟨G0,hG0⟩:∃G,G=H++[⟨[.int .i64 w,.int .i64 h,u2,u3,u4,u5,u6,u7,u8,u9,.int .i64 tm],0,33⟩,⟨[.int .i64 0,.int .i64 0,.slice none 0 0,.slice none 0 0,.slice none 0 0,.slice none 0 0,.slice none 0 0,.slice none 0 0,.slice none 0 0,.slice none 0 0,.int .i64 0],0,48⟩,⟨[.int .i64 0,.int .i64 0,.slice none 0 0,.slice none 0 0,.slice none 0 0,.slice none 0 0,.slice none 0 0,.slice none 0 0,.slice none 0 0,.slice none 0 0,.int .i64 0],0,48⟩]:=⟨_,rfl⟩
 have b0:G0[H.length]? = some ⟨[.int .i64 w,.int .i64 h,u2,u3,u4,u5,u6,u7,u8,u9,.int .i64 tm],0,33⟩:=by rw [hG0];simp
 have bR:G0[H.length+1]? = some ⟨[.int .i64 0,.int .i64 0,.slice none 0 0,.slice none 0 0,.slice none 0 0,.slice none 0 0,.slice none 0 0,.slice none 0 0,.slice none 0 0,.slice none 0 0,.int .i64 0],0,48⟩:=by rw [hG0];simp
 have b1:G0[H.length+2]? = some ⟨[.int .i64 0,.int .i64 0,.slice none 0 0,.slice none 0 0,.slice none 0 0,.slice none 0 0,.slice none 0 0,.slice none 0 0,.slice none 0 0,.slice none 0 0,.int .i64 0],0,48⟩:=by rw [hG0];simp
 have cH:Chg H G0 []:=by rw [hG0];exact Chg.app []
 have lH:H.length+3≤G0.length:=by rw [hG0];simp
 rw [← hG0]
 clear hG0
 refine Qf (Qaa w h u2 b (Rd.isI (r2.chg cH (by simp))) l2) ?_
 rintro _ K1 ⟨n1,rfl,o1,c1,m1,d1⟩
 have q1:=W9 o1
 have lt1:=dMesh.lt o1
 have b0:=Qa b0 c1 (by simp)
 have b1:=Qa b1 c1 (by simp)
 have bR:=Qa bR c1 (by simp)
 have cH:=cH.trans c1
 have lc1:=c1.1
 have e1:Chg K1 (K1.set (H.length+2) ⟨[.int .i64 w,.int .i64 h,n1,.slice none 0 0,.slice none 0 0,.slice none 0 0,.slice none 0 0,.slice none 0 0,.slice none 0 0,.slice none 0 0,.int .i64 0],0,48⟩) [H.length+2]:=Qe _ _
 have g1:=Qg (r':=⟨[.int .i64 w,.int .i64 h,n1,.slice none 0 0,.slice none 0 0,.slice none 0 0,.slice none 0 0,.slice none 0 0,.slice none 0 0,.slice none 0 0,.int .i64 0],0,48⟩) b1
 have b0':=Qa b0 e1 (by simp)
 have bR:=Qa bR e1 (by simp)
 have o1:=Dt.chg (T:=dMesh) o1 e1 (fun i hi hh=>by have:=m1 i hi;simp at hh;omega)
 have cH:=cH.trans' e1 (fun i hi=>.inr (by simp at hi;omega))
 have ls1:(K1.set (H.length+2) ⟨[.int .i64 w,.int .i64 h,n1,.slice none 0 0,.slice none 0 0,.slice none 0 0,.slice none 0 0,.slice none 0 0,.slice none 0 0,.slice none 0 0,.int .i64 0],0,48⟩).length=K1.length:=by simp
 simp [We,VM.look,b0,b1,one2,one3,one4,one5,one6,one7,one8,one9,q1,hF]
 generalize K1.set (H.length+2) ⟨[.int .i64 w,.int .i64 h,n1,.slice none 0 0,.slice none 0 0,.slice none 0 0,.slice none 0 0,.slice none 0 0,.slice none 0 0,.slice none 0 0,.int .i64 0],0,48⟩=G1 at *
 clear b0 b1
 have b0:=b0'
 have b1:=g1
 clear b0' g1 e1
 try simp [VM.look,b0,one2,one3,one4,one5,one6,one7,one8,one9]
 refine Qf (Id u3 u4 A B (Rd.isI (r3.chg cH (by simp))) (Rd.isI (r4.chg cH (by simp))) l3 l4) ?_
 rintro _ K2 ⟨n2,rfl,o2,c2,m2,d2⟩
 have q2:=Q7 o2
 have lt2:=dClasses.lt o2
 have b0:=Qa b0 c2 (by simp)
 have b1:=Qa b1 c2 (by simp)
 have bR:=Qa bR c2 (by simp)
 have o1:=Dt.chg0 (T:=dMesh) o1 c2
 have cH:=cH.trans c2
 have lc2:=c2.1
 have e2:Chg K2 (K2.set (H.length+2) ⟨[.int .i64 w,.int .i64 h,n1,n2.1,n2.2,.slice none 0 0,.slice none 0 0,.slice none 0 0,.slice none 0 0,.slice none 0 0,.int .i64 0],0,48⟩) [H.length+2]:=Qe _ _
 have g2:=Qg (r':=⟨[.int .i64 w,.int .i64 h,n1,n2.1,n2.2,.slice none 0 0,.slice none 0 0,.slice none 0 0,.slice none 0 0,.slice none 0 0,.int .i64 0],0,48⟩) b1
 have b0':=Qa b0 e2 (by simp)
 have bR:=Qa bR e2 (by simp)
 have o1:=Dt.chg (T:=dMesh) o1 e2 (fun i hi hh=>by have:=m1 i hi;simp at hh;omega)
 have o2:=Dt.chg (T:=dClasses) o2 e2 (fun i hi hh=>by have:=m2 i hi;simp at hh;omega)
 have cH:=cH.trans' e2 (fun i hi=>.inr (by simp at hi;omega))
 have ls2:(K2.set (H.length+2) ⟨[.int .i64 w,.int .i64 h,n1,n2.1,n2.2,.slice none 0 0,.slice none 0 0,.slice none 0 0,.slice none 0 0,.slice none 0 0,.int .i64 0],0,48⟩).length=K2.length:=by simp
 simp [Wa,VM.look,b0,b1,one2,one3,one4,one5,one6,one7,one8,one9,q1,q2,hF]
 generalize K2.set (H.length+2) ⟨[.int .i64 w,.int .i64 h,n1,n2.1,n2.2,.slice none 0 0,.slice none 0 0,.slice none 0 0,.slice none 0 0,.slice none 0 0,.int .i64 0],0,48⟩=G2 at *
 clear b0 b1
 have b0:=b0'
 have b1:=g2
 clear b0' g2 e2
 try simp [VM.look,b0,one2,one3,one4,one5,one6,one7,one8,one9]
 refine Qf (Vt u5 h5 buf (r5.chg cH (by simp)) l5 l5') ?_
 rintro _ K3 ⟨n3,rfl,o3,c3,m3,d3⟩
 have q3:=Xj o3
 have lt3:=dSS.lt o3
 have b0:=Qa b0 c3 (by simp)
 have b1:=Qa b1 c3 (by simp)
 have bR:=Qa bR c3 (by simp)
 have o1:=Dt.chg0 (T:=dMesh) o1 c3
 have o2:=Dt.chg0 (T:=dClasses) o2 c3
 have cH:=cH.trans c3
 have lc3:=c3.1
 have e3:Chg K3 (K3.set (H.length+2) ⟨[.int .i64 w,.int .i64 h,n1,n2.1,n2.2,n3.1,.slice none 0 0,.slice none 0 0,.slice none 0 0,.slice none 0 0,.int .i64 0],0,48⟩) [H.length+2]:=Qe _ _
 have g3:=Qg (r':=⟨[.int .i64 w,.int .i64 h,n1,n2.1,n2.2,n3.1,.slice none 0 0,.slice none 0 0,.slice none 0 0,.slice none 0 0,.int .i64 0],0,48⟩) b1
 have b0':=Qa b0 e3 (by simp)
 have bR:=Qa bR e3 (by simp)
 have o1:=Dt.chg (T:=dMesh) o1 e3 (fun i hi hh=>by have:=m1 i hi;simp at hh;omega)
 have o2:=Dt.chg (T:=dClasses) o2 e3 (fun i hi hh=>by have:=m2 i hi;simp at hh;omega)
 have o3:=Dt.chg (T:=dSS) o3 e3 (fun i hi hh=>by have:=m3 i hi;simp at hh;omega)
 have cH:=cH.trans' e3 (fun i hi=>.inr (by simp at hi;omega))
 have ls3:(K3.set (H.length+2) ⟨[.int .i64 w,.int .i64 h,n1,n2.1,n2.2,n3.1,.slice none 0 0,.slice none 0 0,.slice none 0 0,.slice none 0 0,.int .i64 0],0,48⟩).length=K3.length:=by simp
 simp [show dSS.val n3 buf=n3.1 from rfl,VM.look,b0,b1,one2,one3,one4,one5,one6,one7,one8,one9,q1,q2,q3,hF]
 generalize K3.set (H.length+2) ⟨[.int .i64 w,.int .i64 h,n1,n2.1,n2.2,n3.1,.slice none 0 0,.slice none 0 0,.slice none 0 0,.slice none 0 0,.int .i64 0],0,48⟩=G3 at *
 clear b0 b1
 have b0:=b0'
 have b1:=g3
 clear b0' g3 e3
 try simp [VM.look,b0,one2,one3,one4,one5,one6,one7,one8,one9]
 refine Qf (Ue u6 own (Rd.isI (r6.chg cH (by simp))) l6) ?_
 rintro w4 K4 ⟨n4,hr4,o4,c4,m4,d4⟩
 have hw4:n4=w4:=hr4.symm
 subst hw4
 have q4:=W2 o4
 have lt4:=dIntS.lt o4
 have b0:=Qa b0 c4 (by simp)
 have b1:=Qa b1 c4 (by simp)
 have bR:=Qa bR c4 (by simp)
 have o1:=Dt.chg0 (T:=dMesh) o1 c4
 have o2:=Dt.chg0 (T:=dClasses) o2 c4
 have o3:=Dt.chg0 (T:=dSS) o3 c4
 have cH:=cH.trans c4
 have lc4:=c4.1
 have e4:Chg K4 (K4.set (H.length+2) ⟨[.int .i64 w,.int .i64 h,n1,n2.1,n2.2,n3.1,n4,.slice none 0 0,.slice none 0 0,.slice none 0 0,.int .i64 0],0,48⟩) [H.length+2]:=Qe _ _
 have g4:=Qg (r':=⟨[.int .i64 w,.int .i64 h,n1,n2.1,n2.2,n3.1,n4,.slice none 0 0,.slice none 0 0,.slice none 0 0,.int .i64 0],0,48⟩) b1
 have b0':=Qa b0 e4 (by simp)
 have bR:=Qa bR e4 (by simp)
 have o1:=Dt.chg (T:=dMesh) o1 e4 (fun i hi hh=>by have:=m1 i hi;simp at hh;omega)
 have o2:=Dt.chg (T:=dClasses) o2 e4 (fun i hi hh=>by have:=m2 i hi;simp at hh;omega)
 have o3:=Dt.chg (T:=dSS) o3 e4 (fun i hi hh=>by have:=m3 i hi;simp at hh;omega)
 have o4:=Dt.chg (T:=dIntS) o4 e4 (fun i hi hh=>by have:=m4 i hi;simp at hh;omega)
 have cH:=cH.trans' e4 (fun i hi=>.inr (by simp at hi;omega))
 have ls4:(K4.set (H.length+2) ⟨[.int .i64 w,.int .i64 h,n1,n2.1,n2.2,n3.1,n4,.slice none 0 0,.slice none 0 0,.slice none 0 0,.int .i64 0],0,48⟩).length=K4.length:=by simp
 simp [We,VM.look,b0,b1,one2,one3,one4,one5,one6,one7,one8,one9,q1,q2,q3,q4,hF]
 generalize K4.set (H.length+2) ⟨[.int .i64 w,.int .i64 h,n1,n2.1,n2.2,n3.1,n4,.slice none 0 0,.slice none 0 0,.slice none 0 0,.int .i64 0],0,48⟩=G4 at *
 clear b0 b1
 have b0:=b0'
 have b1:=g4
 clear b0' g4 e4
 try simp [VM.look,b0,one2,one3,one4,one5,one6,one7,one8,one9]
 refine Qf (Ue u7 turn (Rd.isI (r7.chg cH (by simp))) l7) ?_
 rintro w5 K5 ⟨n5,hr5,o5,c5,m5,d5⟩
 have hw5:n5=w5:=hr5.symm
 subst hw5
 have q5:=W2 o5
 have lt5:=dIntS.lt o5
 have b0:=Qa b0 c5 (by simp)
 have b1:=Qa b1 c5 (by simp)
 have bR:=Qa bR c5 (by simp)
 have o1:=Dt.chg0 (T:=dMesh) o1 c5
 have o2:=Dt.chg0 (T:=dClasses) o2 c5
 have o3:=Dt.chg0 (T:=dSS) o3 c5
 have o4:=Dt.chg0 (T:=dIntS) o4 c5
 have cH:=cH.trans c5
 have lc5:=c5.1
 have e5:Chg K5 (K5.set (H.length+2) ⟨[.int .i64 w,.int .i64 h,n1,n2.1,n2.2,n3.1,n4,n5,.slice none 0 0,.slice none 0 0,.int .i64 0],0,48⟩) [H.length+2]:=Qe _ _
 have g5:=Qg (r':=⟨[.int .i64 w,.int .i64 h,n1,n2.1,n2.2,n3.1,n4,n5,.slice none 0 0,.slice none 0 0,.int .i64 0],0,48⟩) b1
 have b0':=Qa b0 e5 (by simp)
 have bR:=Qa bR e5 (by simp)
 have o1:=Dt.chg (T:=dMesh) o1 e5 (fun i hi hh=>by have:=m1 i hi;simp at hh;omega)
 have o2:=Dt.chg (T:=dClasses) o2 e5 (fun i hi hh=>by have:=m2 i hi;simp at hh;omega)
 have o3:=Dt.chg (T:=dSS) o3 e5 (fun i hi hh=>by have:=m3 i hi;simp at hh;omega)
 have o4:=Dt.chg (T:=dIntS) o4 e5 (fun i hi hh=>by have:=m4 i hi;simp at hh;omega)
 have o5:=Dt.chg (T:=dIntS) o5 e5 (fun i hi hh=>by have:=m5 i hi;simp at hh;omega)
 have cH:=cH.trans' e5 (fun i hi=>.inr (by simp at hi;omega))
 have ls5:(K5.set (H.length+2) ⟨[.int .i64 w,.int .i64 h,n1,n2.1,n2.2,n3.1,n4,n5,.slice none 0 0,.slice none 0 0,.int .i64 0],0,48⟩).length=K5.length:=by simp
 simp [We,VM.look,b0,b1,one2,one3,one4,one5,one6,one7,one8,one9,q1,q2,q3,q4,q5,hF]
 generalize K5.set (H.length+2) ⟨[.int .i64 w,.int .i64 h,n1,n2.1,n2.2,n3.1,n4,n5,.slice none 0 0,.slice none 0 0,.int .i64 0],0,48⟩=G5 at *
 clear b0 b1
 have b0:=b0'
 have b1:=g5
 clear b0' g5 e5
 try simp [VM.look,b0,one2,one3,one4,one5,one6,one7,one8,one9]
 refine Qf (Vt u8 h8 src (r8.chg cH (by simp)) l8 l8') ?_
 rintro _ K6 ⟨n6,rfl,o6,c6,m6,d6⟩
 have q6:=Xj o6
 have lt6:=dSS.lt o6
 have b0:=Qa b0 c6 (by simp)
 have b1:=Qa b1 c6 (by simp)
 have bR:=Qa bR c6 (by simp)
 have o1:=Dt.chg0 (T:=dMesh) o1 c6
 have o2:=Dt.chg0 (T:=dClasses) o2 c6
 have o3:=Dt.chg0 (T:=dSS) o3 c6
 have o4:=Dt.chg0 (T:=dIntS) o4 c6
 have o5:=Dt.chg0 (T:=dIntS) o5 c6
 have cH:=cH.trans c6
 have lc6:=c6.1
 have e6:Chg K6 (K6.set (H.length+2) ⟨[.int .i64 w,.int .i64 h,n1,n2.1,n2.2,n3.1,n4,n5,n6.1,.slice none 0 0,.int .i64 0],0,48⟩) [H.length+2]:=Qe _ _
 have g6:=Qg (r':=⟨[.int .i64 w,.int .i64 h,n1,n2.1,n2.2,n3.1,n4,n5,n6.1,.slice none 0 0,.int .i64 0],0,48⟩) b1
 have b0':=Qa b0 e6 (by simp)
 have bR:=Qa bR e6 (by simp)
 have o1:=Dt.chg (T:=dMesh) o1 e6 (fun i hi hh=>by have:=m1 i hi;simp at hh;omega)
 have o2:=Dt.chg (T:=dClasses) o2 e6 (fun i hi hh=>by have:=m2 i hi;simp at hh;omega)
 have o3:=Dt.chg (T:=dSS) o3 e6 (fun i hi hh=>by have:=m3 i hi;simp at hh;omega)
 have o4:=Dt.chg (T:=dIntS) o4 e6 (fun i hi hh=>by have:=m4 i hi;simp at hh;omega)
 have o5:=Dt.chg (T:=dIntS) o5 e6 (fun i hi hh=>by have:=m5 i hi;simp at hh;omega)
 have o6:=Dt.chg (T:=dSS) o6 e6 (fun i hi hh=>by have:=m6 i hi;simp at hh;omega)
 have cH:=cH.trans' e6 (fun i hi=>.inr (by simp at hi;omega))
 have ls6:(K6.set (H.length+2) ⟨[.int .i64 w,.int .i64 h,n1,n2.1,n2.2,n3.1,n4,n5,n6.1,.slice none 0 0,.int .i64 0],0,48⟩).length=K6.length:=by simp
 simp [show dSS.val n6 src=n6.1 from rfl,VM.look,b0,b1,one2,one3,one4,one5,one6,one7,one8,one9,q1,q2,q3,q4,q5,q6,hF]
 generalize K6.set (H.length+2) ⟨[.int .i64 w,.int .i64 h,n1,n2.1,n2.2,n3.1,n4,n5,n6.1,.slice none 0 0,.int .i64 0],0,48⟩=G6 at *
 clear b0 b1
 have b0:=b0'
 have b1:=g6
 clear b0' g6 e6
 try simp [VM.look,b0,one2,one3,one4,one5,one6,one7,one8,one9]
 refine Qf (Vt u9 h9 arr (r9.chg cH (by simp)) l9 l9') ?_
 rintro _ K7 ⟨n7,rfl,o7,c7,m7,d7⟩
 have q7:=Xj o7
 have lt7:=dSS.lt o7
 have b0:=Qa b0 c7 (by simp)
 have b1:=Qa b1 c7 (by simp)
 have bR:=Qa bR c7 (by simp)
 have o1:=Dt.chg0 (T:=dMesh) o1 c7
 have o2:=Dt.chg0 (T:=dClasses) o2 c7
 have o3:=Dt.chg0 (T:=dSS) o3 c7
 have o4:=Dt.chg0 (T:=dIntS) o4 c7
 have o5:=Dt.chg0 (T:=dIntS) o5 c7
 have o6:=Dt.chg0 (T:=dSS) o6 c7
 have cH:=cH.trans c7
 have lc7:=c7.1
 have e7:Chg K7 (K7.set (H.length+2) ⟨[.int .i64 w,.int .i64 h,n1,n2.1,n2.2,n3.1,n4,n5,n6.1,n7.1,.int .i64 0],0,48⟩) [H.length+2]:=Qe _ _
 have g7:=Qg (r':=⟨[.int .i64 w,.int .i64 h,n1,n2.1,n2.2,n3.1,n4,n5,n6.1,n7.1,.int .i64 0],0,48⟩) b1
 have b0':=Qa b0 e7 (by simp)
 have bR:=Qa bR e7 (by simp)
 have o1:=Dt.chg (T:=dMesh) o1 e7 (fun i hi hh=>by have:=m1 i hi;simp at hh;omega)
 have o2:=Dt.chg (T:=dClasses) o2 e7 (fun i hi hh=>by have:=m2 i hi;simp at hh;omega)
 have o3:=Dt.chg (T:=dSS) o3 e7 (fun i hi hh=>by have:=m3 i hi;simp at hh;omega)
 have o4:=Dt.chg (T:=dIntS) o4 e7 (fun i hi hh=>by have:=m4 i hi;simp at hh;omega)
 have o5:=Dt.chg (T:=dIntS) o5 e7 (fun i hi hh=>by have:=m5 i hi;simp at hh;omega)
 have o6:=Dt.chg (T:=dSS) o6 e7 (fun i hi hh=>by have:=m6 i hi;simp at hh;omega)
 have o7:=Dt.chg (T:=dSS) o7 e7 (fun i hi hh=>by have:=m7 i hi;simp at hh;omega)
 have cH:=cH.trans' e7 (fun i hi=>.inr (by simp at hi;omega))
 have ls7:(K7.set (H.length+2) ⟨[.int .i64 w,.int .i64 h,n1,n2.1,n2.2,n3.1,n4,n5,n6.1,n7.1,.int .i64 0],0,48⟩).length=K7.length:=by simp
 simp [show dSS.val n7 arr=n7.1 from rfl,VM.look,b0,b1,one2,one3,one4,one5,one6,one7,one8,one9,q1,q2,q3,q4,q5,q6,q7,hF]
 generalize K7.set (H.length+2) ⟨[.int .i64 w,.int .i64 h,n1,n2.1,n2.2,n3.1,n4,n5,n6.1,n7.1,.int .i64 0],0,48⟩=G7 at *
 clear b0 b1
 have b0:=b0'
 have b1:=g7
 clear b0' g7 e7
 try simp [VM.look,b0,one2,one3,one4,one5,one6,one7,one8,one9]
 have e8:Chg G7 (G7.set (H.length+2) ⟨[.int .i64 w,.int .i64 h,n1,n2.1,n2.2,n3.1,n4,n5,n6.1,n7.1,.int .i64 tm],0,48⟩) [H.length+2]:=Qe _ _
 have g8:=Qg (r':=⟨[.int .i64 w,.int .i64 h,n1,n2.1,n2.2,n3.1,n4,n5,n6.1,n7.1,.int .i64 tm],0,48⟩) b1
 have o1:=Dt.chg (T:=dMesh) o1 e8 (fun i hi hh=>by have:=m1 i hi;simp at hh;omega)
 have o2:=Dt.chg (T:=dClasses) o2 e8 (fun i hi hh=>by have:=m2 i hi;simp at hh;omega)
 have o3:=Dt.chg (T:=dSS) o3 e8 (fun i hi hh=>by have:=m3 i hi;simp at hh;omega)
 have o4:=Dt.chg (T:=dIntS) o4 e8 (fun i hi hh=>by have:=m4 i hi;simp at hh;omega)
 have o5:=Dt.chg (T:=dIntS) o5 e8 (fun i hi hh=>by have:=m5 i hi;simp at hh;omega)
 have o6:=Dt.chg (T:=dSS) o6 e8 (fun i hi hh=>by have:=m6 i hi;simp at hh;omega)
 have o7:=Dt.chg (T:=dSS) o7 e8 (fun i hi hh=>by have:=m7 i hi;simp at hh;omega)
 have cH:=cH.trans' e8 (fun i hi=>.inr (by simp at hi;omega))
 have bR:=Qa bR e8 (by simp)
 simp [VM.look,b0,b1,hF,q1,q2,q3,q4,q5,q6,q7]
 generalize G7.set (H.length+2) ⟨[.int .i64 w,.int .i64 h,n1,n2.1,n2.2,n3.1,n4,n5,n6.1,n7.1,.int .i64 tm],0,48⟩=G8 at *
 have gR:=Qg (r':=⟨[.int .i64 w,.int .i64 h,n1,n2.1,n2.2,n3.1,n4,n5,n6.1,n7.1,.int .i64 tm],0,48⟩) bR
 have eR:Chg G8 (G8.set (H.length+1) ⟨[.int .i64 w,.int .i64 h,n1,n2.1,n2.2,n3.1,n4,n5,n6.1,n7.1,.int .i64 tm],0,48⟩) [H.length+1]:=Qe _ _
 have o1:=Dt.chg (T:=dMesh) o1 eR (fun i hi hh=>by have:=m1 i hi;simp at hh;omega)
 have o2:=Dt.chg (T:=dClasses) o2 eR (fun i hi hh=>by have:=m2 i hi;simp at hh;omega)
 have o3:=Dt.chg (T:=dSS) o3 eR (fun i hi hh=>by have:=m3 i hi;simp at hh;omega)
 have o4:=Dt.chg (T:=dIntS) o4 eR (fun i hi hh=>by have:=m4 i hi;simp at hh;omega)
 have o5:=Dt.chg (T:=dIntS) o5 eR (fun i hi hh=>by have:=m5 i hi;simp at hh;omega)
 have o6:=Dt.chg (T:=dSS) o6 eR (fun i hi hh=>by have:=m6 i hi;simp at hh;omega)
 have o7:=Dt.chg (T:=dSS) o7 eR (fun i hi hh=>by have:=m7 i hi;simp at hh;omega)
 have cH:=cH.trans' eR (fun i hi=>.inr (by simp at hi;omega))
 try simp [VM.look,g8,bR,gR,hF1,q1,q2,q3,q4,q5,q6,q7]
 refine ⟨(n1,n2,n3,n4,n5,n6,n7,()),rfl,⟨o1,o2,o3,o4,o5,o6,o7,trivial⟩,cH,fun i hi=>?_,?_⟩
 ·rcases List.mem_append.1 hi with hi|hi
  ·have:=m1 i hi;omega
  rcases List.mem_append.1 hi with hi|hi
  ·have:=m2 i hi;omega
  rcases List.mem_append.1 hi with hi|hi
  ·have:=m3 i hi;omega
  rcases List.mem_append.1 hi with hi|hi
  ·have:=m4 i hi;omega
  rcases List.mem_append.1 hi with hi|hi
  ·have:=m5 i hi;omega
  rcases List.mem_append.1 hi with hi|hi
  ·have:=m6 i hi;omega
  rcases List.mem_append.1 hi with hi|hi
  ·have:=m7 i hi;omega
  ·simp [dNone] at hi
 ·have z7:(dSS.ids n7++[]).Nodup∧∀i∈dSS.ids n7++[],K6.length≤i:=⟨by simpa using d7,fun i hi=>by simp at hi;have:=m7 i hi;omega⟩
  have z6:(dSS.ids n6++(dSS.ids n7++[])).Nodup∧∀i∈dSS.ids n6++(dSS.ids n7++[]),K5.length≤i:=⟨Wu d6 z7.1 lt6 z7.2,fun i hi=>by rcases List.mem_append.1 hi with hi|hi;(have:=m6 i hi;omega);(have:=z7.2 i hi;omega)⟩
  have z5:(dIntS.ids n5++(dSS.ids n6++(dSS.ids n7++[]))).Nodup∧∀i∈dIntS.ids n5++(dSS.ids n6++(dSS.ids n7++[])),K4.length≤i:=⟨Wu d5 z6.1 lt5 z6.2,fun i hi=>by rcases List.mem_append.1 hi with hi|hi;(have:=m5 i hi;omega);(have:=z6.2 i hi;omega)⟩
  have z4:(dIntS.ids n4++(dIntS.ids n5++(dSS.ids n6++(dSS.ids n7++[])))).Nodup∧∀i∈dIntS.ids n4++(dIntS.ids n5++(dSS.ids n6++(dSS.ids n7++[]))),K3.length≤i:=⟨Wu d4 z5.1 lt4 z5.2,fun i hi=>by rcases List.mem_append.1 hi with hi|hi;(have:=m4 i hi;omega);(have:=z5.2 i hi;omega)⟩
  have z3:(dSS.ids n3++(dIntS.ids n4++(dIntS.ids n5++(dSS.ids n6++(dSS.ids n7++[]))))).Nodup∧∀i∈dSS.ids n3++(dIntS.ids n4++(dIntS.ids n5++(dSS.ids n6++(dSS.ids n7++[])))),K2.length≤i:=⟨Wu d3 z4.1 lt3 z4.2,fun i hi=>by rcases List.mem_append.1 hi with hi|hi;(have:=m3 i hi;omega);(have:=z4.2 i hi;omega)⟩
  have z2:(dClasses.ids n2++(dSS.ids n3++(dIntS.ids n4++(dIntS.ids n5++(dSS.ids n6++(dSS.ids n7++[])))))).Nodup∧∀i∈dClasses.ids n2++(dSS.ids n3++(dIntS.ids n4++(dIntS.ids n5++(dSS.ids n6++(dSS.ids n7++[]))))),K1.length≤i:=⟨Wu d2 z3.1 lt2 z3.2,fun i hi=>by rcases List.mem_append.1 hi with hi|hi;(have:=m2 i hi;omega);(have:=z3.2 i hi;omega)⟩
  exact Wu d1 z2.1 lt1 z2.2
theorem Qa5 (w h tm n:Int) (u2 u3 u4 u5 u6 u7 u8 u9:Value) (h5 h8 h9:List Value) (b A B own turn:List Int) (buf src arr:SSD)
 (r2:Rd Fl.int H u2 b) (r3:Rd Fl.int H u3 A) (r4:Rd Fl.int H u4 B) (r5:RdL flF H u5 h5 buf) (r6:Rd Fl.int H u6 own) (r7:Rd Fl.int H u7 turn) (r8:RdL flF H u8 h8 src) (r9:RdL flF H u9 h9 arr)
 (l2:b.length≤9223372036854775807) (l3:A.length≤9223372036854775807) (l4:B.length≤9223372036854775807) (l5:buf.length≤9223372036854775807) (l5':∀x∈buf,x.length≤9223372036854775807) (l6:own.length≤9223372036854775807) (l7:turn.length≤9223372036854775807)
 (l8:src.length≤9223372036854775807) (l8':∀x∈src,x.length≤9223372036854775807) (l9:arr.length≤9223372036854775807) (l9':∀x∈arr,x.length≤9223372036854775807) (h0:0≤n) (h1:n≤1048576) :
 vcall C frz 26 [.agg #[.int .i64 w,.int .i64 h,u2,u3,u4,u5,u6,u7,u8,u9,.int .i64 tm],.int .i64 n] H=some (.int .i64 (if n<(b.length:Int)+((A.length:Int)+(B.length:Int))+(tot buf:Int)+(own.length:Int)+(turn.length:Int)+(tot src:Int)+(tot arr:Int) then -1 else n-((b.length:Int)+((A.length:Int)+(B.length:Int))+(tot buf:Int)+(own.length:Int)+(turn.length:Int)+(tot src:Int)+(tot arr:Int))),H):=by
 refine wp.exact (by simp) ?_ rfl
 rw [Qb (fn:=Tryz.f26) Tryz.func26 rfl (by kernel_rfl) rfl]
 have one2:=And.intro r2.one' r2.cells
 have one3:=And.intro r3.one' r3.cells
 have one4:=And.intro r4.one' r4.cells
 have one5:=And.intro r5.1.one' r5.1.cells
 have one6:=And.intro r6.one' r6.cells
 have one7:=And.intro r7.one' r7.cells
 have one8:=And.intro r8.1.one' r8.1.cells
 have one9:=And.intro r9.1.one' r9.1.cells
 obtain ⟨m0,hm0⟩:∃m,m=n:=⟨_,rfl⟩
 have z0:0≤m0:=by omega
 have z1:m0≤1048576:=by omega
 rw [show (Value.int .i64 n)=.int .i64 m0 by rw [hm0]]
 simp [one2,one3,one4,one5,one6,one7,one8,one9]
 have s0:=fun F L=>A7 (frz:=F) w h u2 b m0 (Rd.isI (r2.app (L:=L))) z0 z1 (by omega)
 simp [s0,one2,one3,one4,one5,one6,one7,one8,one9]
 by_cases g0:m0<(b.length:Int)
 ·simp only [if_pos g0];simp;intro hh;omega
 simp only [if_neg g0]
 obtain ⟨m1,hm1⟩:∃m,m=m0-(b.length:Int):=⟨_,rfl⟩
 rw [← hm1]
 have z0:0≤m1:=by omega
 have z1:m1≤1048576:=by omega
 have f1:¬m1<0:=by omega
 simp [f1,one2,one3,one4,one5,one6,one7,one8,one9]
 have s1:=fun F L=>I9 (frz:=F) u3 u4 A B m1 (Rd.isI (r3.app (L:=L))) (Rd.isI (r4.app (L:=L))) z0 z1 l3 l4
 simp [s1,one2,one3,one4,one5,one6,one7,one8,one9]
 by_cases g1:m1<((A.length:Int)+(B.length:Int))
 ·simp only [if_pos g1];simp;intro hh;omega
 simp only [if_neg g1]
 obtain ⟨m2,hm2⟩:∃m,m=m1-((A.length:Int)+(B.length:Int)):=⟨_,rfl⟩
 rw [← hm2]
 have z0:0≤m2:=by omega
 have z1:m2≤1048576:=by omega
 have f2:¬m2<0:=by omega
 simp [f2,one2,one3,one4,one5,one6,one7,one8,one9]
 have s2:=fun F L=>Td (frz:=F) u5 h5 buf m2 (r5.app (L:=L)) z0 z1 l5 l5'
 simp [s2,one2,one3,one4,one5,one6,one7,one8,one9]
 by_cases g2:m2<(tot buf:Int)
 ·simp only [if_pos g2];simp;intro hh;omega
 simp only [if_neg g2]
 obtain ⟨m3,hm3⟩:∃m,m=m2-(tot buf:Int):=⟨_,rfl⟩
 rw [← hm3]
 have z0:0≤m3:=by omega
 have z1:m3≤1048576:=by omega
 have f3:¬m3<0:=by omega
 simp [f3,one2,one3,one4,one5,one6,one7,one8,one9]
 have s3:=fun F L=>T7 (frz:=F) u6 own m3 (Rd.isI (r6.app (L:=L))) z0 z1 (by omega)
 simp [s3,one2,one3,one4,one5,one6,one7,one8,one9]
 by_cases g3:m3<(own.length:Int)
 ·simp only [if_pos g3];simp;intro hh;omega
 simp only [if_neg g3]
 obtain ⟨m4,hm4⟩:∃m,m=m3-(own.length:Int):=⟨_,rfl⟩
 rw [← hm4]
 have z0:0≤m4:=by omega
 have z1:m4≤1048576:=by omega
 have f4:¬m4<0:=by omega
 simp [f4,one2,one3,one4,one5,one6,one7,one8,one9]
 have s4:=fun F L=>T7 (frz:=F) u7 turn m4 (Rd.isI (r7.app (L:=L))) z0 z1 (by omega)
 simp [s4,one2,one3,one4,one5,one6,one7,one8,one9]
 by_cases g4:m4<(turn.length:Int)
 ·simp only [if_pos g4];simp;intro hh;omega
 simp only [if_neg g4]
 obtain ⟨m5,hm5⟩:∃m,m=m4-(turn.length:Int):=⟨_,rfl⟩
 rw [← hm5]
 have z0:0≤m5:=by omega
 have z1:m5≤1048576:=by omega
 have f5:¬m5<0:=by omega
 simp [f5,one2,one3,one4,one5,one6,one7,one8,one9]
 have s5:=fun F L=>Td (frz:=F) u8 h8 src m5 (r8.app (L:=L)) z0 z1 l8 l8'
 simp [s5,one2,one3,one4,one5,one6,one7,one8,one9]
 by_cases g5:m5<(tot src:Int)
 ·simp only [if_pos g5];simp;intro hh;omega
 simp only [if_neg g5]
 obtain ⟨m6,hm6⟩:∃m,m=m5-(tot src:Int):=⟨_,rfl⟩
 rw [← hm6]
 have z0:0≤m6:=by omega
 have z1:m6≤1048576:=by omega
 have f6:¬m6<0:=by omega
 simp [f6,one2,one3,one4,one5,one6,one7,one8,one9]
 have s6:=fun F L=>Td (frz:=F) u9 h9 arr m6 (r9.app (L:=L)) z0 z1 l9 l9'
 simp [s6,one2,one3,one4,one5,one6,one7,one8,one9]
 by_cases g6:m6<(tot arr:Int)
 ·simp only [if_pos g6];simp;intro hh;omega
 simp only [if_neg g6]
 obtain ⟨m7,hm7⟩:∃m,m=m6-(tot arr:Int):=⟨_,rfl⟩
 rw [← hm7]
 have z0:0≤m7:=by omega
 have z1:m7≤1048576:=by omega
 have f7:¬m7<0:=by omega
 simp [f7,one2,one3,one4,one5,one6,one7,one8,one9]
 rw [if_neg (by omega)];omega
theorem Qa9 (w h:Int) (v u:Value) (b T:List Int) (a to:Int) (hI:IsI H v b) (hT:IsI H u T) (hl:b.length≤1073741824) (hz:tsized w h b T) (ha:isN w h a) (hto:isN w h to) :
 vcall C frz 187 [.agg #[.int .i64 w,.int .i64 h,v],.agg #[u],.int .i64 a,.int .i64 to] H =
  some (.slice (some ⟨H.length,0,some 0⟩) (walk w h b T a to).length 0,H++[⟨(walk w h b T a to).map (.int .i64),0,3⟩]):=by
 rw [Qb (fn:=Tryz.f187) Tryz.func187 rfl (by kernel_rfl) rfl]
 simp [hI.one',hI.cells,hT.one',hT.cells,Q6]
 have hc:=Qm w h
 refine Xa (fun n t H'=>∃(o:List Int) (g:Nat) (x:Int) (G:Heap),n=(cnt w h).toNat+1-o.length∧t 3=.int .i64 to∧t 4=.pointer (some ⟨H.length,0,some 0⟩)∧t 5=.pointer (some ⟨H.length+1,0,some 0⟩)∧
  t 9=.slice (some ⟨H.length+2,0,some g⟩) o.length 0∧t 10=.int .i64 (cnt w h)∧t 11=.int .i64 x∧
  H'=H++⟨[.int .i64 w,.int .i64 h,v],0,42⟩::⟨[u],0,43⟩::⟨o.map (.int .i64),g,3⟩::G∧
  ((o.length≤(cnt w h).toNat∧isN w h x∧walkN w h b T to ((cnt w h).toNat-o.length) x o=walk w h b T a to)∨(o.length=(cnt w h).toNat+1∧walk w h b T a to=[]))) ?_
  (n:=(cnt w h).toNat+1) ⟨[],0,a,[],by simp [ha,walk]⟩
 rintro n t H' ⟨o,g,x,G,rfl,h3,h4,h5,h9,h10,h11,rfl,ho⟩ ih
 simp [h3,h4,h5,h9,h10,h11]
 refine Qo _ ?_ ?_<;>intro hn
 ·obtain ⟨ho1,hx,hw⟩:o.length≤(cnt w h).toNat∧isN w h x∧walkN w h b T to ((cnt w h).toNat-o.length) x o=walk w h b T a to:=by
   rcases ho with ho|ho
   ·exact ho
   ·omega
  obtain ⟨k0,k1,k2,k3⟩:=Uu hx hto
  have hTl:=hz.2
  have e1:IntKind.i64.wrap (x*cnt w h)=x*cnt w h:=w64 (by omega) (by omega)
  have e2:IntKind.i64.wrap (x*cnt w h+to)=x*cnt w h+to:=w64 (by omega) (by have:=hto.2;omega)
  have q1:∀L,vindexAddr Tryz.prog (H++L) 24 u (.int .i64 (x*cnt w h+to))=some (elp u (x*cnt w h+to).toNat):=fun L=>hT.idxA (e:=3) (by simp) k0 (by omega)
  have q2:∀L,vload Tryz.prog (H++L) 3 (elp u (x*cnt w h+to).toNat)=some (.int .i64 (portOf w h T x to)):=fun L=>hT.loadA (by simp) (by omega)
  simp [h3,h4,h5,h9,h10,h11,e1,e2,q1,q2]
  refine Qo _ ?_ ?_<;>intro hp
  ·have hw':walk w h b T a to=if x=to then o else []:=by
    rw [← hw];cases (cnt w h).toNat-o.length<;>simp [walkN,hp]
   simp [h3,h4,h5,h9,h10,h11,hp]
   refine Qo _ ?_ ?_<;>intro hq
   ·simp [h3,h4,h5,h9,h10,h11,hq] at hw' ⊢
    simp [hw']
   ·simp [h3,h4,h5,h9,h10,h11,hq] at hw' ⊢
    simp [hw']
  ·simp [h3,h4,h5,h9,h10,h11,hp]
   have hw0:¬stepOk w h b T x to→walk w h b T a to=[]:=fun hh=>by
    rw [← hw];cases (cnt w h).toNat-o.length<;>simp [walkN,hp,hh]
   have e3:IntKind.i64.wrap (4*x)=4*x:=w64 (by have:=hx.1;omega) (by have:=hx.2;omega)
   simp [Qx]
   refine Wg _ _ ?_ ?_<;>intro hr
   ·have e4:IntKind.i64.wrap (4*x+portOf w h T x to)=4*x+portOf w h T x to:=w64 (by have:=hx.1;have:=hr.1;omega) (by have:=hx.2;have:=hr.2;omega)
    simp [h3,h4,h5,h9,h10,h11,hp,hr,e3,e4,Us _ _ _ _ _ (hI.app _) hl,hI.one',hI.cells]
    refine Qo _ ?_ ?_<;>intro hh
    ·simp [h3,h4,h5,h9,h10,h11,hp,hr,hh,e3,e4,W3,hI.one',hI.cells]
     obtain ⟨s1,s2,s3⟩:=U2 hr hh
     refine Wv (by omega) ?_
     refine ih ((cnt w h).toNat+1-(o.length+1)) _ _ ⟨o++[4*x+portOf w h T x to],g+1,next w h x (portOf w h T x to),_,by simp,by simp [h3],by simp [h4],by simp [h5],by simp,by simp [h10],by simp,by simp;rfl,?_⟩ (by omega)
     by_cases hlt:o.length<(cnt w h).toNat
     ·refine .inl ⟨by simp;omega,s3,?_⟩
      rw [show (cnt w h).toNat-o.length=((cnt w h).toNat-(o++[4*x+portOf w h T x to]).length)+1 by simp;omega] at hw
      rw [← hw,walkN,if_neg hp,if_pos ⟨hr,hh⟩]
     ·refine .inr ⟨by simp;omega,?_⟩
      rw [show (cnt w h).toNat-o.length=0 by omega] at hw
      rw [← hw,walkN,if_neg hp]
    ·have hw2:=hw0 (fun k=>hh k.2)
     simp [h3,h4,h5,h9,h10,h11,hp,hr,hh,e3,e4,hw2]
   ·have hw2:=hw0 (fun k=>hr k.1)
    simp [h3,h4,h5,h9,h10,h11,hp,hr,hw2]
 ·have hw2:walk w h b T a to=[]:=by
   rcases ho with ho|ho
   ·omega
   ·exact ho.2
  simp [h3,h4,h5,h9,h10,h11,hn,hw2]
theorem Im (w h:Int) (v u:Value) (b T:List Int) (a to:Int) (hI:IsI H v b) (hT:IsI H u T) (hl:b.length≤1073741824) (hz:tsized w h b T) (ha:isN w h a) (hto:isN w h to) :
 vcall C frz 222 [.agg #[.int .i64 w,.int .i64 h,v],.agg #[u],.int .i64 a,.int .i64 to] H =
  some (.int .i64 (if inR 0 (portOf w h T a to) 4 then portOf w h T a to else -1),H):=by
 rw [Qb (fn:=Tryz.f222) Tryz.func222 rfl (by kernel_rfl) rfl]
 have hc:=Qm w h
 obtain ⟨k0,k1,k2,k3⟩:=Uu ha hto
 have hTl:=hz.2
 have hc2:cnt w h*cnt w h≤16*16:=Int.mul_le_mul hc.2 hc.2 hc.1 (by omega)
 have hc3:0*0≤cnt w h*cnt w h:=Int.mul_le_mul hc.1 hc.1 (by omega) hc.1
 have e0:IntKind.i64.wrap (cnt w h*cnt w h)=cnt w h*cnt w h:=w64 (by omega) (by omega)
 have e1:IntKind.i64.wrap (a*cnt w h)=a*cnt w h:=w64 (by omega) (by omega)
 have e2:IntKind.i64.wrap (a*cnt w h+to)=a*cnt w h+to:=w64 (by omega) (by have:=hto.2;omega)
 have q1:∀L,vindexAddr Tryz.prog (H++L) 24 u (.int .i64 (a*cnt w h+to))=some (elp u (a*cnt w h+to).toNat):=fun L=>hT.idxA (e:=3) (by simp) k0 (by omega)
 have q2:∀L,vload Tryz.prog (H++L) 3 (elp u (a*cnt w h+to).toNat)=some (.int .i64 (portOf w h T a to)):=fun L=>hT.loadA (by simp) (by omega)
 simp [hI.one',hI.cells,hT.one',hT.cells,Wi,Zj _ _ _ _ (hI.app _) hl,hz.1,Qr,M6,ha,hto,e0,e1,e2,q1,q2,hT.lenA,hTl]
 try refine Qo _ ?_ ?_<;>intro hr<;>simp [hr,q1,q2,e1,e2]
def ret (H:Heap) (xs:List Int):Value×Heap:=if xs=[] then (.slice none 0 0,H) else (.slice (some ⟨H.length,0,some 0⟩) xs.length 0,H++[⟨xs.map (.int .i64),0,3⟩])
theorem Qdb (w h:Int) (v u:Value) (b T:List Int) (a to:Int) (hI:IsI H v b) (hT:IsI H u T) (hl:b.length≤1073741824) (hz:tsized w h b T) (ha:isN w h a) (hto:isN w h to) (hne:a≠to) :
 vcall C frz 201 [.agg #[.int .i64 w,.int .i64 h,v],.agg #[u],.int .i64 a,.int .i64 to] H=some (ret H (walk w h b T a to)):=by
 rw [Qb (fn:=Tryz.f201) Tryz.func201 rfl (by kernel_rfl) rfl]
 have hc:=Qm w h
 simp [hI.one',hI.cells,hT.one',hT.cells,Wi,Zj _ _ _ _ (hI.app _) hl,hz.1,W1,ha,hto,hne]
 refine Xa (fun n t H'=>∃(o:List Int) (g:Nat) (x:Int) (G:Heap),n=(cnt w h).toNat+1-o.length∧t 3=.int .i64 to∧t 4=.pointer (some ⟨H.length,0,some 0⟩)∧t 5=.pointer (some ⟨H.length+1,0,some 0⟩)∧
  t 9=.slice (some ⟨H.length+2,0,some g⟩) o.length 0∧t 10=.int .i64 x∧
  H'=H++⟨[.int .i64 w,.int .i64 h,v],0,42⟩::⟨[u],0,43⟩::⟨o.map (.int .i64),g,3⟩::G∧
  o.length≤(cnt w h).toNat∧isN w h x∧walkN w h b T to ((cnt w h).toNat-o.length) x o=walk w h b T a to∧(o=[]→x≠to)) ?_
  (n:=(cnt w h).toNat+1) ⟨[],0,a,[],by simp [ha,walk,hne]⟩
 rintro n t H' ⟨o,g,x,G,rfl,h3,h4,h5,h9,h10,rfl,ho1,hx,hw,hox⟩ ih
 have hpa:=fun F L=>Im (frz:=F) (H:=H++L) w h v u b T x to (hI.app _) (hT.app _) hl hz hx hto
 have hw0:portOf w h T x to≠4→¬stepOk w h b T x to→walk w h b T a to=[]:=fun hp hh=>by
  rw [← hw];cases (cnt w h).toNat-o.length<;>simp [walkN,hp,hh]
 simp [h3,h4,h5,h9,h10,hI.one',hI.cells,hT.one',hT.cells,hpa]
 have hnil:walk w h b T a to=[]→(Value.slice none 0 0,H)=ret H (walk w h b T a to):=fun hh=>by rw [hh];rfl
 by_cases hr:inR 0 (portOf w h T x to) 4
 ·have hlt:¬portOf w h T x to<0:=by have:=hr.1;omega
  simp [hr,hlt]
  refine Qo _ ?_ ?_<;>intro hp
  ·have hw':walk w h b T a to=if x=to then o else []:=by
    rw [← hw];cases (cnt w h).toNat-o.length<;>simp [walkN,hp]
   simp [h3,h4,h5,h9,h10,hp]
   refine Qo _ ?_ ?_<;>intro hq
   ·have hon:o≠[]:=fun hh=>hox hh hq
    rw [if_pos hq] at hw'
    simp [h3,h4,h5,h9,h10,hq,hw',ret,hon]
   ·rw [if_neg hq] at hw'
    simp [h3,h4,h5,h9,h10,hq,hw',ret]
  ·have hr3:inR 0 (portOf w h T x to) 3:=⟨hr.1,by have:=hr.2;omega⟩
   have e3:IntKind.i64.wrap (4*x)=4*x:=w64 (by have:=hx.1;omega) (by have:=hx.2;omega)
   have e4:IntKind.i64.wrap (4*x+portOf w h T x to)=4*x+portOf w h T x to:=w64 (by have:=hx.1;have:=hr.1;omega) (by have:=hx.2;have:=hr.2;omega)
   simp [h3,h4,h5,h9,h10,hp,hI.one',hI.cells,e3,e4,Yl _ _ _ _ _ (hI.app _) hl,hz.1]
   refine Wg _ _ ?_ ?_<;>intro hh
   ·obtain ⟨s1,s2,s3⟩:=U2 hr3 hh
    have he:=fun F L=>T2 (frz:=F) (H:=H++L) w h v b (4*x+portOf w h T x to) (hI.app _) hh.1
    rw [s1,s2] at he
    simp [h3,h4,h5,h9,h10,hp,hh,hI.one',hI.cells,e3,e4,Wi]
    refine Qo _ ?_ ?_<;>intro hf
    ·have hwz:walk w h b T a to=[]:=by
      rw [show (cnt w h).toNat-o.length=0 by omega] at hw
      rw [← hw,walkN,if_neg hp]
     simp [h3,h4,h5,h9,h10,hp,hh,hf,hnil hwz]
    ·simp [h3,h4,h5,h9,h10,hp,hh,hf,hI.one',hI.cells,e3,e4]
     refine Wv (by omega) ?_
     simp [h3,h4,h5,h9,h10,hp,hh,hf,hI.one',hI.cells,e3,e4,he]
     refine ih ((cnt w h).toNat+1-(o.length+1)) _ _ ⟨o++[4*x+portOf w h T x to],g+1,next w h x (portOf w h T x to),_,by simp,by simp [h3],by simp [h4],by simp [h5],by simp,by simp,by simp;rfl,by simp;omega,s3,?_,by simp⟩ (by omega)
     rw [show (cnt w h).toNat-o.length=((cnt w h).toNat-(o++[4*x+portOf w h T x to]).length)+1 by simp;omega] at hw
     rw [← hw,walkN,if_neg hp,if_pos ⟨hr3,hh⟩]
   ·simp [h3,h4,h5,h9,h10,hp,hh]
    exact hnil (hw0 hp (fun hs=>hh hs.2))
 ·simp [hr]
  refine hnil (hw0 (fun hp=>hr ?_) fun hs=>hr ⟨hs.1.1,by have:=hs.1.2;omega⟩)
  rw [hp];exact ⟨by omega,by omega⟩
theorem Jw (w h:Int):IntKind.i64.wrap (cnt w h*cnt w h)=cnt w h*cnt w h:=by
 have hc:=Qm w h
 have hc2:cnt w h*cnt w h≤16*16:=Int.mul_le_mul hc.2 hc.2 hc.1 (by omega)
 have hc3:0*0≤cnt w h*cnt w h:=Int.mul_le_mul hc.1 hc.1 (by omega) hc.1
 exact w64 (by omega) (by omega)
theorem Qcf (w h:Int) (v u:Value) (b T:List Int) (hI:IsI H v b) (hT:IsI H u T) (hl:b.length≤1073741824) :
 vcall C frz 186 [.agg #[.int .i64 w,.int .i64 h,v],.agg #[u]] H=some (.bool (decide (tsized w h b T)),H):=by
 rw [Qb (fn:=Tryz.f186) Tryz.func186 rfl (by kernel_rfl) rfl]
 simp [hI.one',hI.cells,hT.one',hT.cells,Q6,Su _ _ _ _ (hI.app _) hl]
 refine Wg _ _ ?_ ?_<;>intro h1<;>simp [h1,tsized,hT.lenA,Jw,hI.one',hI.cells,hT.one',hT.cells,Q6,-Bool.decide_and]
def good (w h:Int) (b T:List Int) (a c:Nat):Prop:=((a:Int)=c→portOf w h T a a=4)∧((a:Int)≠c→walk w h b T a c≠[])
theorem Rb (w h:Int) (b T:List Int):tableOk w h b T↔tsized w h b T∧∀a,a<(cnt w h).toNat→∀c,c<(cnt w h).toNat→good w h b T a c:=by
 unfold tableOk good
 refine and_congr Iff.rfl ⟨fun k a ha c hc=>?_,fun k a ha c hc=>?_⟩
 ·exact ⟨fun e=>(k a ha c hc).1 (by omega),fun e=>(k a ha c hc).2 (by omega)⟩
 ·exact ⟨fun e=>(k a ha c hc).1 (by omega),fun e=>(k a ha c hc).2 (by omega)⟩
theorem Xu {w h:Int} {a:Nat} (k:a<(cnt w h).toNat):isN w h a:=⟨by omega,by omega⟩
theorem Oo (w h:Int) (v u:Value) (b T:List Int) (hI:IsI H v b) (hT:IsI H u T) (hl:b.length≤1073741824) :
 vcall C frz 156 [.agg #[.int .i64 w,.int .i64 h,v],.agg #[u]] H=some (.bool (decide (tableOk w h b T)),H):=by
 rw [Qb (fn:=Tryz.f156) Tryz.func156 rfl (by kernel_rfl) rfl]
 simp [hI.one',hI.cells,hT.one',hT.cells,Q6,Qcf _ _ _ _ _ _ (hI.app _) (hT.app _) hl]
 refine Qo _ ?_ ?_<;>intro h1
 ·simp [h1,hI.one',hI.cells,hT.one',hT.cells,Q6]
  have hc:=Qm w h
  have no:∀i j:Nat,i<(cnt w h).toNat→j<(cnt w h).toNat→¬good w h b T i j→¬tableOk w h b T:=fun i j hi hj hg hh=>hg (((Rb w h b T).1 hh).2 i hi j hj)
  refine Xa (fun n t H'=>∃(i:Nat) (G:Heap),n=(cnt w h).toNat-i∧i≤(cnt w h).toNat∧t 2=.pointer (some ⟨H.length,0,some 0⟩)∧t 3=.pointer (some ⟨H.length+1,0,some 0⟩)∧
   t 5=.int .i64 (cnt w h)∧t 6=.int .i64 i∧H'=H++⟨[.int .i64 w,.int .i64 h,v],0,42⟩::⟨[u],0,43⟩::G∧∀a,a<i→∀c,c<(cnt w h).toNat→good w h b T a c) ?_
   (n:=(cnt w h).toNat) ⟨0,[],by simp⟩
  rintro n t H' ⟨i,G,rfl,hi,h2,h3,h5,h6,rfl,hk⟩ ih
  simp [h2,h3,h5,h6]
  refine Qo _ ?_ ?_<;>intro hlt
  ·simp [h2,h3,h5,h6,hlt]
   refine Xa (fun n t H'=>∃(j:Nat) (G:Heap),n=(cnt w h).toNat-j∧j≤(cnt w h).toNat∧t 2=.pointer (some ⟨H.length,0,some 0⟩)∧t 3=.pointer (some ⟨H.length+1,0,some 0⟩)∧
    t 5=.int .i64 (cnt w h)∧t 6=.int .i64 i∧t 7=.int .i64 j∧H'=H++⟨[.int .i64 w,.int .i64 h,v],0,42⟩::⟨[u],0,43⟩::G∧∀c,c<j→good w h b T i c) ?_
    (n:=(cnt w h).toNat) ⟨0,G,by simp [h2,h3,h5,h6]⟩
   clear h2 h3 h5 h6
   rintro n t H' ⟨j,G,rfl,hj,h2,h3,h5,h6,h7,rfl,hkj⟩ ih2
   simp [h2,h3,h5,h6,h7]
   refine Qo _ ?_ ?_<;>intro hlj
   ·have ni:i<(cnt w h).toNat:=by omega
    have nj:j<(cnt w h).toNat:=by omega
    obtain ⟨k0,k1,k2,k3⟩:=Uu (Xu ni) (Xu ni)
    have hTl:=h1.2
    have e1:IntKind.i64.wrap (i*cnt w h)=i*cnt w h:=w64 (by omega) (by omega)
    have e2:IntKind.i64.wrap (i*cnt w h+i)=i*cnt w h+i:=w64 (by omega) (by omega)
    have q1:∀L,vindexAddr Tryz.prog (H++L) 24 u (.int .i64 (i*cnt w h+i))=some (elp u (i*cnt w h+i:Int).toNat):=fun L=>hT.idxA (e:=3) (by simp) k0 (by omega)
    have q2:∀L,vload Tryz.prog (H++L) 3 (elp u (i*cnt w h+i:Int).toNat)=some (.int .i64 (portOf w h T i i)):=fun L=>hT.loadA (by simp) (by omega)
    have sw:=fun F L=>Qa9 (frz:=F) (H:=H++L) w h v u b T i j (hI.app _) (hT.app _) hl h1 (Xu ni) (Xu nj)
    have yes:=fun (t':Env) (G':Heap) (x2:t' 2=.pointer (some ⟨H.length,0,some 0⟩)) (x3:t' 3=.pointer (some ⟨H.length+1,0,some 0⟩)) (x5:t' 5=.int .i64 (cnt w h)) (x6:t' 6=.int .i64 i) (x7:t' 7=.int .i64 (j+1:Nat)) (hg:good w h b T i j)=>
     ih2 ((cnt w h).toNat-(j+1)) t' _ ⟨j+1,G',rfl,by omega,x2,x3,x5,x6,x7,rfl,fun c hc'=>by
      by_cases hcj:c<j
      ·exact hkj c hcj
      ·have:c=j:=by omega
       subst this;exact hg⟩ (by omega)
    simp [h2,h3,h5,h6,h7,hlj]
    refine Wg _ _ ?_ ?_<;>intro hij
    ·obtain rfl:i=j:=by omega
     simp [h2,h3,h5,h6,h7,hlj,e1,e2,q1,q2]
     refine Wg _ _ ?_ ?_<;>intro hp
     ·simp [h2,h3,h5,h6,h7,hlj,hp]
      refine yes _ _ (by simp [h2]) (by simp [h3]) (by simp [h5]) (by simp [h6]) ?_ ⟨fun _=>hp,fun hh=>absurd rfl hh⟩
      simp;rw [w64 (by omega) (by omega)]
     ·simp [h2,h3,h5,h6,h7,hlj,hp]
      exact no i i ni ni (fun hg=>hp (hg.1 rfl))
    ·simp [h2,h3,h5,h6,h7,hlj,hij,hI.one',hI.cells,hT.one',hT.cells,sw]
     refine Qo _ ?_ ?_<;>intro hp
     ·simp [h2,h3,h5,h6,h7,hlj,hp]
      exact no i j ni nj (fun hg=>hg.2 hij hp)
     ·simp [h2,h3,h5,h6,h7,hlj,hp]
      refine yes _ _ (by simp [h2]) (by simp [h3]) (by simp [h5]) (by simp [h6]) ?_ ⟨fun hh=>absurd hh hij,fun _=>hp⟩
      simp;rw [w64 (by omega) (by omega)]
   ·have:j=(cnt w h).toNat:=by omega
    subst this
    simp [h2,h3,h5,h6,h7,hlj]
    refine ih ((cnt w h).toNat-(i+1)) _ _ ⟨i+1,G,rfl,by omega,by simp [h2],by simp [h3],by simp [h5],?_,rfl,fun a ha c hc'=>?_⟩ (by omega)
    ·simp;rw [w64 (by omega) (by omega)]
    ·by_cases hai:a<i
     ·exact hk a hai c hc'
     ·have:a=i:=by omega
      subst this;exact hkj c hc'
  ·simp [h2,h3,h5,h6,hlt]
   have:i=(cnt w h).toNat:=by omega
   subst this
   exact (Rb w h b T).2 ⟨h1,hk⟩
 ·simp [h1]
  exact fun k=>h1 k.1
theorem Uv (v:Value) (xs:List Int) (lo hi:Int) (hI:IsI H v xs) (hl:xs.length≤1073741824) :
 vcall C frz 133 [v,.int .i64 lo,.int .i64 hi] H=some (.bool (decide (∀x∈xs,inR lo x hi)),H):=by
 rw [Qb (fn:=Tryz.f133) Tryz.func133 rfl (by kernel_rfl) rfl]
 simp [hI.len]
 refine Xa (fun n t H'=>∃i:Nat,n=xs.length-i∧i≤xs.length∧t 1=.int .i64 lo∧t 2=.int .i64 hi∧t 9=v∧t 10=.int .i64 xs.length∧t 11=.int .i64 i∧H'=H∧∀x∈xs.take i,inR lo x hi) ?_ (n:=xs.length) ⟨0,by simp⟩
 rintro n t H' ⟨i,rfl,hi',h1,h2,h3,h4,h5,rfl,hj⟩ ih
 simp [h1,h2,h3,h4,h5]
 refine Qo _ ?_ ?_<;>intro h6
 ·simp [h1,h2,h3,h4,h5,h6,hI.idx,hI.load,Qu,Qr]
  refine Qo _ ?_ ?_<;>intro h7<;>simp [h1,h2,h3,h4,h5,h6,h7]
  ·refine ih (xs.length-(i+1)) _ _ ⟨i+1,rfl,by omega,by simp [h1],by simp [h2],by simp [h3],by simp [h4],?_,rfl,fun x hx=>?_⟩ (by omega)
   ·simp;rw [w64 (by omega) (by omega)]
   ·rw [List.take_succ_eq_append_getElem h6] at hx
    rcases List.mem_append.1 hx with hx|hx
    ·exact hj x hx
    ·rw [List.mem_singleton.1 hx];exact h7
  ·exact ⟨_,List.getElem_mem h6,h7⟩
 ·have:i=xs.length:=by omega
  subst this
  simp [h1,h2,h3,h4,h5]
  rwa [List.take_length] at hj
def rowPairs (n a m:Nat):List (Nat×Nat):=((List.range m).filter (fun c=>a≠c)).map fun c=>(a,c)
def allPairs (n m:Nat):List (Nat×Nat):=(List.range m).flatMap fun a=>rowPairs n a n
theorem Ic (n a m:Nat) (h:a=m):rowPairs n a (m+1)=rowPairs n a m:=by
 simp [rowPairs,List.range_succ,h]
theorem Ju (n a m:Nat) (h:a≠m):rowPairs n a (m+1)=rowPairs n a m++[(a,m)]:=by
 simp [rowPairs,List.range_succ,h]
theorem Nd (n m:Nat):allPairs n (m+1)=allPairs n m++rowPairs n m n:=by
 simp [allPairs,List.range_succ]
theorem Kc {n a c:Nat}:(a,c)∈allPairs n n↔a<n∧c<n∧a≠c:=by
 simp [allPairs,rowPairs]
theorem Qbq (w h:Int) (f:Value) {Q:Value→Heap→Prop} (Inv:List (Nat×Nat)→Heap→Prop)
 (h0:Inv [] (H++[⟨[.int .i64 w,.int .i64 h],0,40⟩]))
 (hs:∀(done:List (Nat×Nat)) (a c:Nat) (H':Heap),a<(cnt w h).toNat→c<(cnt w h).toNat→a≠c→Inv done H'→wp (vclos (vcall C frz) f [.int .i64 a,.int .i64 c] H') fun r H''=>(r=.bool true∧Inv (done++[(a,c)]) H'')∨(r=.bool false∧Q (.bool false) H''))
 (he:∀H',Inv (allPairs (cnt w h).toNat (cnt w h).toNat) H'→Q (.bool true) H') :
 wp (vcall C frz 199 [.agg #[.int .i64 w,.int .i64 h],f] H) Q:=by
 rw [Qb (fn:=Tryz.f199) Tryz.func199 rfl (by kernel_rfl) rfl]
 have hc:=Qm w h
 simp [Wi]
 refine Qk (fun n t H'=>∃(i:Nat),n=(cnt w h).toNat-i∧i≤(cnt w h).toNat∧t 1=f∧t 5=.int .i64 (cnt w h)∧t 10=.int .i64 (cnt w h)∧t 11=.int .i64 i∧
  Inv (allPairs (cnt w h).toNat i) H') ?_ (n:=(cnt w h).toNat) ⟨0,by simp [allPairs,h0]⟩
 rintro n t H' ⟨i,rfl,hi,h1,h5,h10,h11,hk⟩ ih
 simp [h1,h5,h10,h11]
 refine Qc ?_ ?_<;>intro hlt
 ·simp [h1,h5,h10,h11,hlt]
  refine Qk (fun n t H'=>∃(j:Nat),n=(cnt w h).toNat-j∧j≤(cnt w h).toNat∧t 1=f∧t 5=.int .i64 (cnt w h)∧t 10=.int .i64 (cnt w h)∧t 11=.int .i64 i∧t 6=.int .i64 i∧t 14=.int .i64 (cnt w h)∧t 15=.int .i64 j∧
   Inv (allPairs (cnt w h).toNat i++rowPairs (cnt w h).toNat i j) H') ?_ (n:=(cnt w h).toNat) ⟨0,by simp [h1,h5,h10,h11,rowPairs,hk]⟩
  clear h1 h5 h10 h11 hk
  rintro n t H' ⟨j,rfl,hj,h1,h5,h10,h11,h6,h14,h15,hk⟩ ih2
  simp [h1,h5,h10,h11,h6,h14,h15]
  refine Qc ?_ ?_<;>intro hlj
  ·have ni:i<(cnt w h).toNat:=by omega
   have nj:j<(cnt w h).toNat:=by omega
   have yes:=fun (t':Env) (H':Heap) (x1:t' 1=f) (x5:t' 5=.int .i64 (cnt w h)) (x10:t' 10=.int .i64 (cnt w h)) (x11:t' 11=.int .i64 i) (x6:t' 6=.int .i64 i) (x14:t' 14=.int .i64 (cnt w h)) (x15:t' 15=.int .i64 (j+1:Nat)) (hg:Inv (allPairs (cnt w h).toNat i++rowPairs (cnt w h).toNat i (j+1)) H')=>
    ih2 ((cnt w h).toNat-(j+1)) t' H' ⟨j+1,rfl,by omega,x1,x5,x10,x11,x6,x14,x15,hg⟩ (by omega)
   simp [h1,h5,h10,h11,h6,h14,h15,hlj]
   refine Wp ?_ ?_<;>intro hij
   ·simp [h1,h5,h10,h11,h6,h14,h15,hlj,hij]
    refine yes _ _ (by simp [h1]) (by simp [h5]) (by simp [h10]) (by simp [h11]) (by simp [h6]) (by simp [h14]) ?_ (by rw [Ic _ _ _ (by omega)];exact hk)
    simp;rw [w64 (by omega) (by omega)]
   ·simp [h1,h5,h10,h11,h6,h14,h15,hlj,hij]
    refine Qf (hs _ i j H' ni nj (by omega) hk) ?_
    rintro r H'' (⟨rfl,hq⟩|⟨rfl,hq⟩)
    ·simp [h1,h5,h10,h11,h6,h14,h15,hlj,hij]
     refine yes _ _ (by simp [h1]) (by simp [h5]) (by simp [h10]) (by simp [h11]) (by simp [h6]) (by simp [h14]) ?_ (by rw [Ju _ _ _ (by omega),← List.append_assoc];exact hq)
     simp;rw [w64 (by omega) (by omega)]
    ·simp [h1,h5,h10,h11,h6,h14,h15,hlj,hij]
     exact hq
  ·have:j=(cnt w h).toNat:=by omega
   subst this
   simp [h1,h5,h10,h11,h6,h14,h15,hlj]
   refine ih ((cnt w h).toNat-(i+1)) _ _ ⟨i+1,rfl,by omega,by simp [h1],by simp [h5],by simp [h10],?_,by rw [Nd];exact hk⟩ (by omega)
   ·simp;rw [w64 (by omega) (by omega)]
 ·simp [h1,h5,h10,h11,hlt]
  have:i=(cnt w h).toNat:=by omega
  subst this
  exact he _ hk
theorem Fi (w h:Int) (v u:Value) (b T:List Int) (a c:Int) (r1 r2:Nat) (hI:IsI H v b) (hT:IsI H u T) (hl:b.length≤1073741824) (hz:tsized w h b T) (ha:isN w h a) (hto:isN w h c) (hne:a≠c)
 (g1:H[r1]? = some ⟨[.int .i64 w,.int .i64 h,v],0,42⟩) (g2:H[r2]? = some ⟨[u],0,43⟩) :
 vcall C frz 200 [.int .i64 a,.int .i64 c,.pointer (some ⟨r1,0,some 0⟩),.pointer (some ⟨r2,0,some 0⟩)] H=some (.bool (!decide (walk w h b T a c=[])),H):=by
 rw [Qb (fn:=Tryz.f200) Tryz.func200 rfl (by kernel_rfl) rfl]
 simp [VM.look,g1,g2,hI.one',hI.cells,hT.one',hT.cells,Qdb _ _ _ _ _ _ _ _ hI hT hl hz ha hto hne]
 by_cases hw:walk w h b T a c=[]
 ·simp [ret,hw]
 ·have:0<(walk w h b T a c).length:=List.length_pos_iff.2 hw
  simp [ret,hw,this]
theorem Dz (w h:Int) (v u:Value) (b T:List Int) (hI:IsI H v b) (hT:IsI H u T) (hl:b.length≤1073741824) :
 wp (vcall C frz 171 [.agg #[.int .i64 w,.int .i64 h,v],.agg #[u]] H) (fun r _=>r=.bool (decide (tableOk w h b T))):=by
 rw [Qb (fn:=Tryz.f171) Tryz.func171 rfl (by kernel_rfl) rfl]
 simp [hI.one',hI.cells,hT.one',hT.cells,Wi,Zj _ _ _ _ (hI.app _) hl]
 refine Wp ?_ ?_<;>intro hm
 ·simp [hm,hT.lenA,Jw]
  refine Qc ?_ ?_<;>intro hz
  ·simp [hz]
   have hs:tsized w h b T:=⟨hm,hz⟩
   have hc:=Qm w h
   refine Qk (fun n t H'=>∃(i:Nat),n=(cnt w h).toNat-i∧i≤(cnt w h).toNat∧t 2=.pointer (some ⟨H.length,0,some 0⟩)∧t 3=.pointer (some ⟨H.length+1,0,some 0⟩)∧t 5=.int .i64 (cnt w h)∧t 22=.int .i64 (cnt w h)∧t 23=.int .i64 i∧
    H'=H++[⟨[.int .i64 w,.int .i64 h,v],0,42⟩,⟨[u],0,43⟩]∧∀a,a<i→portOf w h T a a=4) ?_ (n:=(cnt w h).toNat) ⟨0,by simp⟩
   rintro n t H' ⟨i,rfl,hi,h2,h3,h5,h22,h23,rfl,hk⟩ ih
   simp [h2,h3,h5,h22,h23]
   refine Qc ?_ ?_<;>intro hlt
   ·have ni:i<(cnt w h).toNat:=by omega
    obtain ⟨k0,k1,k2,k3⟩:=Uu (Xu ni) (Xu ni)
    have e1:IntKind.i64.wrap (i*cnt w h)=i*cnt w h:=w64 (by omega) (by omega)
    have e2:IntKind.i64.wrap (i*cnt w h+i)=i*cnt w h+i:=w64 (by omega) (by omega)
    have q1:∀L,vindexAddr Tryz.prog (H++L) 24 u (.int .i64 (i*cnt w h+i))=some (elp u (i*cnt w h+i:Int).toNat):=fun L=>hT.idxA (e:=3) (by simp) k0 (by omega)
    have q2:∀L,vload Tryz.prog (H++L) 3 (elp u (i*cnt w h+i:Int).toNat)=some (.int .i64 (portOf w h T i i)):=fun L=>hT.loadA (by simp) (by omega)
    simp [h2,h3,h5,h22,h23,hlt,e1,e2,q1,q2]
    refine Qc ?_ ?_<;>intro hp
    ·simp [h2,h3,h5,h22,h23,hlt,hp]
     refine ih ((cnt w h).toNat-(i+1)) _ _ ⟨i+1,rfl,by omega,by simp [h2],by simp [h3],by simp [h5],by simp [h22],?_,rfl,fun a ha=>?_⟩ (by omega)
     ·simp;rw [w64 (by omega) (by omega)]
     ·by_cases hai:a<i
      ·exact hk a hai
      ·have:a=i:=by omega
       subst this;exact hp
    ·simp [h2,h3,h5,h22,h23,hlt,hp]
     exact fun hh=>hp ((hh.2 i ni i ni).1 rfl)
   ·simp [h2,h3,h5,h22,h23,hlt]
    have:i=(cnt w h).toNat:=by omega
    subst this
    refine Qf (Qbq w h _ (Q:=fun r _=>r=.bool (decide (tableOk w h b T))) (fun done H'=>∃L,H'=H++[⟨[.int .i64 w,.int .i64 h,v],0,42⟩,⟨[u],0,43⟩]++L∧∀p∈done,walk w h b T p.1 p.2≠[]) ⟨_,rfl,by simp⟩ ?_ ?_) ?_
    ·rintro done a c _ ha hc' hne ⟨L,rfl,hd⟩
     simp
     rw [Fi w h v u b T a c _ _ (hI.app _) (hT.app _) hl hs (Xu ha) (Xu hc') (by omega) (by simp) (by simp)]
     simp
     by_cases hw:walk w h b T a c=[]
     ·refine .inr ⟨hw,?_⟩
      exact fun hh=>(hh.2 a (by omega) c (by omega)).2 (by omega) hw
     ·refine .inl ⟨hw,fun p q hp=>?_⟩
      rcases hp with hp|⟨rfl,rfl⟩
      ·exact hd (p,q) hp
      ·exact hw
    ·rintro _ ⟨L,rfl,hd⟩
     simp
     exact ⟨hs,fun a ha c hc'=>⟨fun _=>hk a ha,fun hne=>hd (a,c) (Kc.2 ⟨ha,hc',hne⟩)⟩⟩
    ·rintro _ H' rfl
     simp
  ·simp [hz]
   exact fun hh=>hz hh.1.2
 ·simp [hm]
  exact fun hh=>hm hh.1.1
theorem N4 (w h:Int) (v u:Value) (b T:List Int) (hI:IsI H v b) (hT:IsI H u T) (hl:b.length≤1073741824) :
 vcall C frz 171 [.agg #[.int .i64 w,.int .i64 h,v],.agg #[u]] H=some (.bool (decide (tableOk w h b T)),H):=
 (Dz w h v u b T hI hT hl).exact (by simp) rfl
def castOk (w h:Int) (b T:List Int) (a:Int) (ts:List Int):Prop:=tableOk w h b T∧isN w h a∧∀x∈ts,isN w h x
instance (w h:Int) (b T:List Int) (a:Int) (ts:List Int):Decidable (castOk w h b T a ts):=inferInstanceAs (Decidable (_∧_))
def classesOk (w h:Int) (b A B:List Int):Prop:=tableOk w h b A∧tableOk w h b B
instance (w h:Int) (b A B:List Int):Decidable (classesOk w h b A B):=inferInstanceAs (Decidable (_∧_))
abbrev PkD:=Int×Int×Int×Int×Int
def packetOk (w h:Int) (p:PkD):Prop:=inR 1 p.1 9999∧isN w h p.2.1∧isN w h p.2.2.1∧p.2.1≠p.2.2.1∧inR 0 p.2.2.2.1 1∧inR 1 p.2.2.2.2 5
instance (w h:Int) (p:PkD):Decidable (packetOk w h p):=inferInstanceAs (Decidable (_∧_))
def pkV (p:PkD):Value:=.agg #[.int .i64 p.1,.int .i64 p.2.1,.int .i64 p.2.2.1,.int .i64 p.2.2.2.1,.int .i64 p.2.2.2.2]
theorem S1 (w h:Int) (v u1 u2:Value) (b A B:List Int) (hI:IsI H v b) (h1:IsI H u1 A) (h2:IsI H u2 B) (hl:b.length≤1073741824) :
 vcall C frz 130 [.agg #[.int .i64 w,.int .i64 h,v],.agg #[u1,u2]] H=some (.bool (decide (classesOk w h b A B)),H):=by
 rw [Qb (fn:=Tryz.f130) Tryz.func130 rfl (by kernel_rfl) rfl]
 have one:=And.intro (And.intro h1.one' h1.cells) (And.intro h2.one' h2.cells)
 simp [hI.one',hI.cells,one,N4 _ _ _ _ _ _ (hI.app _) (h1.app _) hl]
 refine Wg _ _ ?_ ?_<;>intro g<;>simp [g,classesOk,hI.one',hI.cells,one,N4 _ _ _ _ _ _ (hI.app _) (h2.app _) hl]
theorem Tk (w h:Int) (v u1 u2:Value) (b A B:List Int) (hI:IsI H v b) (h1:IsI H u1 A) (h2:IsI H u2 B) (hl:b.length≤1073741824) :
 vcall C frz 102 [.agg #[.int .i64 w,.int .i64 h,v],.agg #[u1,u2]] H=some (.bool (decide (classesOk w h b A B)),H):=by
 rw [Qb (fn:=Tryz.f102) Tryz.func102 rfl (by kernel_rfl) rfl]
 have one:=And.intro (And.intro h1.one' h1.cells) (And.intro h2.one' h2.cells)
 simp [hI.one',hI.cells,one,Oo _ _ _ _ _ _ (hI.app _) (h1.app _) hl]
 refine Wg _ _ ?_ ?_<;>intro g<;>simp [g,classesOk,hI.one',hI.cells,one,Oo _ _ _ _ _ _ (hI.app _) (h2.app _) hl]
theorem O4 (w h:Int) (p:PkD):vcall C frz 77 [.agg #[.int .i64 w,.int .i64 h],pkV p] H=some (.bool (decide (packetOk w h p)),H):=by
 obtain ⟨i,a,b,c,l⟩:=p
 rw [Qb (fn:=Tryz.f77) Tryz.func77 rfl (by kernel_rfl) rfl]
 by_cases g1:inR 1 i 9999
 ·by_cases g2:isN w h a
  ·by_cases g3:isN w h b
   ·by_cases g4:a=b
    ·simp [pkV,Qr,W1,g1,g2,g3,g4,packetOk]
    ·by_cases g5:inR 0 c 1
     ·by_cases g6:inR 1 l 5<;>simp [pkV,Qr,W1,g1,g2,g3,g4,g5,g6,packetOk]
     ·simp [pkV,Qr,W1,g1,g2,g3,g4,g5,packetOk]
   ·simp [pkV,Qr,W1,g1,g2,g3,packetOk]
  ·simp [pkV,Qr,W1,g1,g2,packetOk]
 ·simp [pkV,Qr,W1,g1,packetOk]
theorem Un (w h:Int) (p:PkD):vcall C frz 58 [.agg #[.int .i64 w,.int .i64 h],pkV p] H=some (.bool (decide (packetOk w h p)),H):=by
 obtain ⟨i,a,b,c,l⟩:=p
 rw [Qb (fn:=Tryz.f58) Tryz.func58 rfl (by kernel_rfl) rfl]
 by_cases g1:inR 1 i 9999
 ·by_cases g2:isN w h a
  ·by_cases g3:isN w h b
   ·by_cases g4:a=b
    ·simp [pkV,Qx,Xc,g1,g2,g3,g4,packetOk]
    ·by_cases g5:inR 0 c 1
     ·by_cases g6:inR 1 l 5<;>simp [pkV,Qx,Xc,g1,g2,g3,g4,g5,g6,packetOk]
     ·simp [pkV,Qx,Xc,g1,g2,g3,g4,g5,packetOk]
   ·simp [pkV,Qx,Xc,g1,g2,g3,packetOk]
  ·simp [pkV,Qx,Xc,g1,g2,packetOk]
 ·simp [pkV,Qx,Xc,g1,packetOk]
theorem Ft (i a c k l:Int):vcall C frz 74 [.agg #[.int .i64 i,.int .i64 a,.int .i64 c,.int .i64 k,.int .i64 l]] H=some (.agg #[.int .i64 i,.int .i64 a,.int .i64 c,.int .i64 k,.int .i64 l],H):=by
 rw [Qb (fn:=Tryz.f74) Tryz.func74 rfl (by kernel_rfl) rfl]
 simp
def flitOk (w h:Int) (f:FlitD):Prop:=isN w h f.2.1∧inR 0 f.2.2.1 1
instance (w h:Int) (f:FlitD):Decidable (flitOk w h f):=inferInstanceAs (Decidable (_∧_))
def flitsOk (w h:Int) (l:List FlitD):Prop:=∀f∈l,flitOk w h f
instance (w h:Int) (l:List FlitD):Decidable (flitsOk w h l):=inferInstanceAs (Decidable (∀f∈l,flitOk w h f))
def sizesOk (x:NetD):Prop:=(x.2.2.1.length:Int)=10*cnt x.1.1 x.1.2.1∧(x.2.2.2.1.length:Int)=10*cnt x.1.1 x.1.2.1∧(x.2.2.2.2.1.length:Int)=5*cnt x.1.1 x.1.2.1∧(x.2.2.2.2.2.1.length:Int)=cnt x.1.1 x.1.2.1∧(x.2.2.2.2.2.2.1.length:Int)=cnt x.1.1 x.1.2.1
instance (x:NetD):Decidable (sizesOk x):=inferInstanceAs (Decidable (_∧_))
def bufOk (w h:Int) (l:List FlitD) (c:Int):Prop:=l.length≤3∧(∀f∈l,f.2.2.1=c)∧flitsOk w h l
instance (w h:Int) (l:List FlitD) (c:Int):Decidable (bufOk w h l c):=inferInstanceAs (Decidable (_∧_))
def srcOk (w h:Int) (l:List FlitD):Prop:=l.length≤60∧flitsOk w h l
instance (w h:Int) (l:List FlitD):Decidable (srcOk w h l):=inferInstanceAs (Decidable (_∧_))
def netOk (x:NetD):Prop:=classesOk x.1.1 x.1.2.1 x.1.2.2 x.2.1.1 x.2.1.2∧sizesOk x∧(∀i,i<x.2.2.1.length→bufOk x.1.1 x.1.2.1 (x.2.2.1.getD i []) ((i:Int)%2))∧(∀l∈x.2.2.2.2.2.1,srcOk x.1.1 x.1.2.1 l)∧
 (∀o∈x.2.2.2.1,inR (-1) o 4)∧(∀o∈x.2.2.2.2.1,inR 0 o 9)∧inR 0 x.2.2.2.2.2.2.2 1000000
instance (x:NetD):Decidable (netOk x):=inferInstanceAs (Decidable (_∧_))
theorem Oi (w h:Int) (v:Value) (xs:List FlitD) (hI:Rd flF H v xs) (hl:xs.length≤1073741824) :
 vcall C frz 132 [.agg #[.int .i64 w,.int .i64 h],v] H=some (.bool (decide (flitsOk w h xs)),H):=by
 refine wp.exact (by simp) ?_ rfl
 rw [Qb (fn:=Tryz.f132) Tryz.func132 rfl (by kernel_rfl) rfl]
 generalize hB:decide (flitsOk w h xs)=B
 simp [hI.app.len (P:=Tryz.prog) (ty:=145) (by simp)]
 refine Qk (fun n t H'=>∃i:Nat,n=xs.length-i∧i≤xs.length∧t 2=.pointer (some ⟨H.length,0,some 0⟩)∧t 7=v∧t 8=.int .i64 xs.length∧t 9=.int .i64 i∧Chg H H' []∧H'[H.length]? = some ⟨[.int .i64 w,.int .i64 h],0,40⟩∧∀f∈xs.take i,flitOk w h f) ?_ (n:=xs.length)
  ⟨0,rfl,by omega,by simp,by simp,by simp,by simp,Chg.app _,by simp,by simp⟩
 rintro n t H' ⟨i,rfl,hi,t2,t7,t8,t9,c,b2,hk⟩ ih
 simp [t2,t7,t8,t9]
 refine Qc ?_ ?_<;>intro g
 ·have hi':i<xs.length:=by omega
  have rd:=hI.chg c (by simp)
  have q1:=rd.idx (P:=Tryz.prog) (ty:=145) (e:=148) (by simp) (i:=(i:Int)) (by omega) (by omega)
  have q2:=rd.load (P:=Tryz.prog) (e:=148) (by simp) hi'
  simp only [Int.toNat_natCast,Y3] at q1 q2
  have l0:=c.1
  have hF:H.length≤H'.length:=l0
  have b2':=fun r=>Qa (Ql b2 [r]) (Qe H'.length r) (by simp;have:=Qt b2;omega)
  have hlt:=Qt b2
  have hne:H'.length≠H.length:=by omega
  have key:flitOk w h xs[i]↔isN w h xs[i].2.1∧inR 0 xs[i].2.2.1 1:=Iff.rfl
  have hsucc:∀f∈xs.take (i+1),f∈xs.take i∨f=xs[i]:=fun f hf=>by
   rw [List.take_succ_eq_append_getElem hi'] at hf
   rcases List.mem_append.1 hf with hf|hf
   ·exact .inl hf
   ·exact .inr (List.mem_singleton.1 hf)
  have hno:¬flitOk w h xs[i]→¬flitsOk w h xs:=fun hh k=>hh (k _ (List.getElem_mem hi'))
  simp [t2,t7,t8,t9,q1,q2,hF,Wn,VM.look,b2,Ql b2,W1,Qr]
  by_cases g1:isN w h xs[i].2.1
  ·by_cases g2:inR 0 xs[i].2.2.1 1
   ·simp [t2,t7,t8,t9,g1,g2,Qr]
    refine ih (xs.length-(i+1)) _ _ ⟨i+1,rfl,by omega,by simp [t2],by simp [t7],by simp [t8],?_,c.trans (Chg.app _),Ql b2 _,fun f hf=>?_⟩ (by omega)
    ·simp;rw [w64 (by omega) (by omega)]
    ·rcases hsucc f hf with hf|rfl
     ·exact hk f hf
     ·exact ⟨g1,g2⟩
   ·simp [t2,t7,t8,t9,g1,g2,Qr]
    rw [← hB];exact decide_eq_false (hno (fun hh=>g2 hh.2))
  ·simp [t2,t7,t8,t9,g1]
   rw [← hB];exact decide_eq_false (hno (fun hh=>g1 hh.1))
 ·have:i=xs.length:=by omega
  subst this
  rw [List.take_length] at hk
  simp [t2,t7,t8,t9]
  rw [← hB];exact decide_eq_true hk
theorem Pe (w h:Int) (v:Value) (xs:List FlitD) (hI:Rd flF H v xs) (hl:xs.length≤1073741824) :
 vcall C frz 104 [.agg #[.int .i64 w,.int .i64 h],v] H=some (.bool (decide (flitsOk w h xs)),H):=by
 refine wp.exact (by simp) ?_ rfl
 rw [Qb (fn:=Tryz.f104) Tryz.func104 rfl (by kernel_rfl) rfl]
 generalize hB:decide (flitsOk w h xs)=B
 simp
 have rd:Rd flF (H++[⟨[.int .i64 w,.int .i64 h],0,40⟩]) v xs:=hI.app
 refine Qk (fun n t H'=>∃i:Nat,n=xs.length-i∧i≤xs.length∧t 1=v∧t 2=.pointer (some ⟨H.length,0,some 0⟩)∧t 5=.int .i64 i∧H'=H++[⟨[.int .i64 w,.int .i64 h],0,40⟩]∧∀f∈xs.take i,flitOk w h f) ?_ (n:=xs.length)
  ⟨0,rfl,by omega,by simp,by simp,by simp,rfl,by simp⟩
 rintro n t H' ⟨i,rfl,hi,t1,t2,t5,rfl,hk⟩ ih
 simp [t1,t2,t5,rd.len (P:=Tryz.prog) (ty:=145) (by simp)]
 refine Qc ?_ ?_<;>intro g
 ·have hi':i<xs.length:=by omega
  have q1:=rd.idx (P:=Tryz.prog) (ty:=145) (e:=148) (by simp) (i:=(i:Int)) (by omega) (by omega)
  have q2:=rd.cell (P:=Tryz.prog) (e:=3) (by simp) hi' (c:=1) (by decide)
  have q3:=rd.cell (P:=Tryz.prog) (e:=3) (by simp) hi' (c:=2) (by decide)
  have q4:=rd.field (P:=Tryz.prog) (s:=148) (f:=1) (o:=1) (n:=1) (ag:=false) (by simp) (j:=i*5) (by omega)
  have q5:=rd.field (P:=Tryz.prog) (s:=148) (f:=2) (o:=2) (n:=1) (ag:=false) (by simp) (j:=i*5) (by omega)
  simp only [Int.toNat_natCast,Y3,Wn] at q1 q2 q3
  simp at q2 q3
  have hsucc:∀f∈xs.take (i+1),f∈xs.take i∨f=xs[i]:=fun f hf=>by
   rw [List.take_succ_eq_append_getElem hi'] at hf
   rcases List.mem_append.1 hf with hf|hf
   ·exact .inl hf
   ·exact .inr (List.mem_singleton.1 hf)
  have hno:¬flitOk w h xs[i]→¬flitsOk w h xs:=fun hh k=>hh (k _ (List.getElem_mem hi'))
  simp [t1,t2,t5]
  rw [Qj (h:=by kernel_rfl)]
  simp [-vfieldAddr,Qy,t1,t2,t5,q1,q2,q3,q4,q5,Xc]
  by_cases g1:isN w h xs[i].2.1
  ·by_cases g2:inR 0 xs[i].2.2.1 1
   ·simp [-vfieldAddr,Qy,t1,t2,t5,g1,g2,Qx,q1,q5,q3]
    refine ih (xs.length-(i+1)) _ _ ⟨i+1,rfl,by omega,by simp [t1],by simp [t2],?_,rfl,fun f hf=>?_⟩ (by omega)
    ·simp;rw [w64 (by omega) (by omega)]
    ·rcases hsucc f hf with hf|rfl
     ·exact hk f hf
     ·exact ⟨g1,g2⟩
   ·simp [-vfieldAddr,Qy,t1,t2,t5,g1,g2,Qx,q1,q5,q3]
    rw [← hB];exact decide_eq_false (hno (fun hh=>g2 hh.2))
  ·simp [t1,t2,t5,g1]
   rw [← hB];exact decide_eq_false (hno (fun hh=>g1 hh.1))
 ·have:i=xs.length:=by omega
  subst this
  rw [List.take_length] at hk
  simp [t1,t2,t5]
  rw [← hB];exact decide_eq_true hk
theorem Ra (v:Value) (xs:List FlitD) (c:Int) (hI:Rd flF H v xs) (hl:xs.length≤1073741824) :
 wp (vcall C frz 131 [v,.int .i64 c] H) (fun r H'=>Ow flF 148 H' r (xs.filter fun f=>f.2.2.1=c)∧(∀i∈ids r,H.length≤i)∧Chg H H' []):=by
 rw [Qb (fn:=Tryz.f131) Tryz.func131 rfl (by kernel_rfl) rfl]
 simp [hI.app.len (P:=Tryz.prog) (ty:=145) (by simp)]
 refine Qk (fun n t H'=>∃(i:Nat) (r:Value),n=xs.length-i∧i≤xs.length∧t 1=.int .i64 c∧t 5=r∧t 9=v∧t 10=.int .i64 xs.length∧t 11=.int .i64 i∧Chg H H' []∧Ow flF 148 H' r ((xs.take i).filter fun f=>f.2.2.1=c)∧(∀j∈ids r,H.length≤j)) ?_ (n:=xs.length)
  ⟨0,.slice (some ⟨H.length,0,some 0⟩) 0 0,rfl,by omega,by simp,by simp,by simp,by simp,by simp,Chg.app _,Ow.new0 (D:=flF) (xs:=[]) rfl rfl rfl rfl,by simp⟩
 rintro n t H' ⟨i,r,rfl,hi,t1,t5,t9,t10,t11,ch,o,nr⟩ ih
 simp [t1,t5,t9,t10,t11]
 refine Qc ?_ ?_<;>intro g
 ·have hi':i<xs.length:=by omega
  have rd:=hI.chg ch (by simp)
  have q1:=rd.idx (P:=Tryz.prog) (ty:=145) (e:=148) (by simp) (i:=(i:Int)) (by omega) (by omega)
  have q2:=rd.load (P:=Tryz.prog) (e:=148) (by simp) hi'
  simp only [Int.toNat_natCast,Y3] at q1 q2
  have hF:H.length≤H'.length:=ch.1
  have hfl:=List.length_filter_le (fun f:FlitD=>decide (f.2.2.1=c)) (xs.take i)
  have htl:(xs.take i).length≤i:=by simp;omega
  simp [t1,t5,t9,t10,t11,q1,q2,hF,Wn,VM.look]
  refine Qc ?_ ?_<;>intro g1
  ·obtain ⟨r',H2,hap,o2,c2,n2⟩:=(o.app (L:=[⟨flF.f xs[i],0,148⟩])).push (P:=Tryz.prog) (frz:=H.length) (ty:=145) (a:=xs[i]) (by simp) rfl (by omega) nr
   simp only [Wn,List.append_assoc,List.cons_append,List.nil_append,List.length_append,List.length_cons,List.length_nil] at hap
   simp [t1,t5,t9,t10,t11,hap]
   refine ih (xs.length-(i+1)) _ _ ⟨i+1,r',rfl,by omega,by simp [t1],by simp,by simp [t9],by simp [t10],?_,(ch.trans (Chg.app _)).trans' c2 (fun j hj=>.inr (nr j hj)),?_,fun j hj=>?_⟩ (by omega)
   ·simp;rw [w64 (by omega) (by omega)]
   ·rw [List.take_succ_eq_append_getElem hi',List.filter_append];simpa [g1] using o2
   ·rcases n2 j hj with h1|h1
    ·exact nr j h1
    ·simp at h1;omega
  ·simp [t1,t5,t9,t10,t11,g1]
   refine ih (xs.length-(i+1)) _ _ ⟨i+1,r,rfl,by omega,by simp [t1],by simp [t5],by simp [t9],by simp [t10],?_,ch.trans (Chg.app _),?_,nr⟩ (by omega)
   ·simp;rw [w64 (by omega) (by omega)]
   ·rw [List.take_succ_eq_append_getElem hi',List.filter_append];simpa [g1] using o.app
 ·have:i=xs.length:=by omega
  subst this
  rw [List.take_length] at o
  simp [t1,t5,t9,t10,t11]
  exact ⟨o,nr,ch⟩
end Go.Proofs.YtlhaeingdonaeaaGreat.V
set_option linter.all false
namespace Go.Proofs.YtlhaeingdonaeaaGreat.V
open Go Go.VM Go.Proofs
set_option maxRecDepth 10000
abbrev GrD:=Nat×Nat×Nat
def upd (s:SSD) (k:Nat) (f:List FlitD→List FlitD):SSD:=s.set k (f (s.getD k []))
@[simp] theorem Rp (s:SSD) (k:Nat) (f:List FlitD→List FlitD):(upd s k f).length=s.length:=by simp [upd]
theorem Ub {s:SSD} {k:Nat} (f:List FlitD→List FlitD) (h:k<s.length):(upd s k f).getD k []=f (s.getD k []):=by
 simp [upd,List.getD_eq_getElem?_getD,h]
theorem Xn {s:SSD} {k j:Nat} (f:List FlitD→List FlitD) (h:k≠j):(upd s k f).getD j []=s.getD j []:=by
 simp [upd,List.getD_eq_getElem?_getD,List.getElem?_set_ne h]
theorem As {s:SSD} {k j:Nat} (f g:List FlitD→List FlitD) (h:k≠j):upd (upd s k f) j g=upd (upd s j g) k f:=by
 have e1:=Xn (s:=s) f h
 have e2:=Xn (s:=s) g h.symm
 show (upd s k f).set j (g ((upd s k f).getD j []))=(upd s j g).set k (f ((upd s j g).getD k []))
 rw [e1,e2]
 exact List.set_comm _ _ h
theorem Db (s:SSD) (k:Nat) (f g:List FlitD→List FlitD):upd (upd s k f) k g=upd s k (fun l=>g (f l)):=by
 by_cases h:k<s.length
 ·show (upd s k f).set k (g ((upd s k f).getD k []))=_
  rw [Ub f h]
  simp [upd]
 ·simp [upd,List.set_eq_of_length_le (Nat.le_of_not_lt h)]
theorem Aa {s:SSD} {k j:Nat} (f:FlitD) (h:s.getD k []≠[]):upd (upd s j (·++[f])) k (List.drop 1)=upd (upd s k (List.drop 1)) j (·++[f]):=by
 by_cases e:j=k
 ·subst e
  rw [Db,Db]
  unfold upd
  congr 1
  cases hh:s.getD j [] with
  | nil=>exact absurd hh h
  | cons a l=>rfl
 ·exact As _ _ e
def headL (l:List FlitD):FlitD:=l.headD (0,0,0,false,false)
def headOf (x:NetD) (j:Nat):FlitD:=headL (x.2.2.1.getD j [])
def frm (g:GrD):Nat:=10*g.1+g.2.2
def tgt (x:NetD) (a p c:Nat):Nat:=(10*next x.1.1 x.1.2.1 a p+2*opp p+c).toNat
def outAt (a p c:Nat):Nat:=10*a+2*p+c
def popS (s:SSD) (g:GrD):SSD:=upd s (frm g) (List.drop 1)
def pushS (x:NetD) (s:SSD) (g:GrD):SSD:=if g.2.1=4 then s else upd s (tgt x g.1 g.2.1 (g.2.2%2)) (·++[headOf x (frm g)])
def arrS (x:NetD) (s:SSD) (g:GrD):SSD:=if g.2.1=4 then upd s g.1 (·++[headOf x (frm g)]) else s
def ownS (x:NetD) (s:List Int) (g:GrD):List Int:=s.set (outAt g.1 g.2.1 (g.2.2%2)) (if (headOf x (frm g)).2.2.2.2 then -1 else ((g.2.2/2:Nat):Int))
def turnS (s:List Int) (g:GrD):List Int:=s.set (5*g.1+g.2.1) (((g.2.2+1)%10:Nat):Int)
def srcHead (x:NetD) (k:Nat):FlitD:=headL (x.2.2.2.2.2.1.getD k [])
def entAt (x:NetD) (k:Nat):Nat:=(10*(k:Int)+8+(srcHead x k).2.2.1).toNat
def entS (x:NetD) (s:SSD) (k:Nat):SSD:=upd s (entAt x k) (·++[srcHead x k])
def srcS (s:SSD) (k:Nat):SSD:=upd s k (List.drop 1)
def wantedN (x:NetD) (a i:Nat):Int:=
 if x.2.2.1.getD (10*a+i) []=[] then -1
 else if (headOf x (10*a+i)).2.2.2.1 then portOf x.1.1 x.1.2.1 (if i%2=1 then x.2.1.2 else x.2.1.1) a (headOf x (10*a+i)).2.1
 else match (List.range 5).find? fun p=>x.2.2.2.1.getD (outAt a p (i%2)) 0=((i/2:Nat):Int) with
  | some p=>(p:Int)
  | none=>-1
def roomN (x:NetD) (a p c:Nat):Prop:=p=4∨(has x.1.1 x.1.2.1 x.1.2.2 (4*a+p)∧(x.2.2.1.getD (tgt x a p c) []).length<3)
noncomputable instance (x:NetD) (a p c:Nat):Decidable (roomN x a p c):=inferInstanceAs (Decidable (_∨_))
def reqN (x:NetD) (a i p:Nat):Prop:=wantedN x a i=(p:Int)∧roomN x a p (i%2)∧
 x.2.2.2.1.getD (outAt a p (i%2)) 0=if (headOf x (10*a+i)).2.2.2.1 then -1 else ((i/2:Nat):Int)
noncomputable instance (x:NetD) (a i p:Nat):Decidable (reqN x a i p):=inferInstanceAs (Decidable (_∧_))
noncomputable def reqsN (x:NetD) (a p:Nat):List Nat:=(List.range 10).filter fun i=>reqN x a i p
def firstF (t:Int) (l:List Int):Int:=l.foldl (fun b y=>if b<0∨(y-t+10)%10<(b-t+10)%10 then y else b) (-1)
noncomputable def freeN (x:NetD) (a p:Nat) (u:List Bool):List Nat:=(reqsN x a p).filter fun i=>!u.getD (i/2) false
noncomputable def pickN (x:NetD) (a p:Nat) (u:List Bool):Int:=firstF (x.2.2.2.2.1.getD (5*a+p) 0) ((freeN x a p u).map Int.ofNat)
noncomputable def grStep (x:NetD) (a:Nat) (st:List GrD×List Bool) (p:Nat):List GrD×List Bool:=
 if 0≤pickN x a p st.2 then (st.1++[(a,p,(pickN x a p st.2).toNat)],st.2.set ((pickN x a p st.2).toNat/2) true) else st
noncomputable def grTo (x:NetD) (a p:Nat):List GrD×List Bool:=(List.range p).foldl (grStep x a) ([],List.replicate 5 false)
noncomputable def grN (x:NetD) (a:Nat):List GrD:=(grTo x a 5).1
noncomputable def allTo (x:NetD) (n:Nat):List GrD:=(List.range n).flatMap (grN x)
noncomputable def allN (x:NetD):List GrD:=allTo x (cnt x.1.1 x.1.2.1).toNat
def entersN (x:NetD) (k:Nat):Prop:=x.2.2.2.2.2.1.getD k []≠[]∧(x.2.2.1.getD (entAt x k) []).length<3
noncomputable instance (x:NetD) (k:Nat):Decidable (entersN x k):=inferInstanceAs (Decidable (_∧_))
noncomputable def enterN (x:NetD):List Nat:=(List.range (cnt x.1.1 x.1.2.1).toNat).filter fun k=>entersN x k
noncomputable def stepN (x:NetD):NetD:=
 (x.1,x.2.1,(enterN x).foldl (entS x) ((allN x).foldl (pushS x) ((allN x).foldl popS x.2.2.1)),(allN x).foldl (ownS x) x.2.2.2.1,(allN x).foldl turnS x.2.2.2.2.1,
  (enterN x).foldl srcS x.2.2.2.2.2.1,(allN x).foldl (arrS x) x.2.2.2.2.2.2.1,x.2.2.2.2.2.2.2+1)
def bothS (x:NetD) (s:SSD) (g:GrD):SSD:=pushS x (popS s g) g
@[simp] theorem I7 (s:SSD) (g:GrD):(popS s g).length=s.length:=Rp _ _ _
@[simp] theorem Ss (x:NetD) (s:SSD) (g:GrD):(pushS x s g).length=s.length:=by unfold pushS;split<;>simp
@[simp] theorem Pg (x:NetD) (s:SSD) (g:GrD):(arrS x s g).length=s.length:=by unfold arrS;split<;>simp
@[simp] theorem O3 (x:NetD) (s:List Int) (g:GrD):(ownS x s g).length=s.length:=by unfold ownS;simp
@[simp] theorem Sn (s:List Int) (g:GrD):(turnS s g).length=s.length:=by unfold turnS;simp
@[simp] theorem Py (x:NetD) (s:SSD) (k:Nat):(entS x s k).length=s.length:=Rp _ _ _
@[simp] theorem Ph (s:SSD) (k:Nat):(srcS s k).length=s.length:=Rp _ _ _
theorem Wd {α β:Type} {f:List β→α→List β} (h:∀s a,(f s a).length=s.length):∀(l:List α) (s:List β),(l.foldl f s).length=s.length
 | [],s=>rfl
 | a::l,s=>by rw [List.foldl_cons,Wd h l,h]
theorem Xi {α β:Type} (f:β→α→β) (s:β) {l:List α} {i:Nat} (h:i<l.length):(l.take (i+1)).foldl f s=f ((l.take i).foldl f s) l[i]:=by
 rw [List.take_succ_eq_append_getElem h,List.foldl_append];rfl
theorem Qai {x:NetD} {s:SSD} {g g':GrD} (h:s.getD (frm g') []≠[]):popS (pushS x s g) g'=pushS x (popS s g') g:=by
 unfold popS pushS
 by_cases e:g.2.1=4
 ·rw [if_pos e,if_pos e]
 ·rw [if_neg e,if_neg e];exact Aa _ h
theorem E6 (x:NetD):∀(l:List GrD) (s:SSD),(l.map frm).Nodup→(∀g∈l,s.getD (frm g) []≠[])→l.foldl (bothS x) s=l.foldl (pushS x) (l.foldl popS s)
 | [],s,_,_=>rfl
 | g::l,s,nd,hs=>by
  obtain ⟨n1,n2⟩:=List.nodup_cons.1 nd
  have hne:∀g'∈l,frm g≠frm g':=fun g' hg e=>n1 (e▸List.mem_map_of_mem hg)
  have h1:∀g'∈l,(popS s g).getD (frm g') []≠[]:=fun g' hg=>by
   rw [popS,Xn _ (hne g' hg)];exact hs g' (List.mem_cons_of_mem _ hg)
  have h2:∀g'∈l,(bothS x s g).getD (frm g') []≠[]:=fun g' hg=>by
   have:=h1 g' hg
   unfold bothS pushS
   split
   ·exact this
   ·by_cases e:tgt x g.1 g.2.1 (g.2.2%2)=frm g'
    ·rw [e]
     by_cases hl:frm g'<(popS s g).length
     ·rw [Ub _ hl];simp
     ·simp [List.getD_eq_getElem?_getD,List.getElem?_eq_none (Nat.le_of_not_lt hl)] at this
    ·rw [Xn _ e];exact this
  rw [List.foldl_cons,E6 x l _ n2 h2]
  have key:∀(m:List GrD) (z:SSD),(m.map frm).Nodup→(∀g'∈m,z.getD (frm g') []≠[])→m.foldl popS (pushS x z g)=pushS x (m.foldl popS z) g:=by
   intro m
   induction m with
   | nil=>intro z _ _;rfl
   | cons g' m ih=>
    intro z nz hz
    obtain ⟨z1,z2⟩:=List.nodup_cons.1 nz
    rw [List.foldl_cons,List.foldl_cons,Qai (hz g' (List.mem_cons_self ..))]
    refine ih _ z2 fun g2 hg2=>?_
    have hne2:frm g'≠frm g2:=fun e=>z1 (e▸List.mem_map_of_mem hg2)
    rw [popS,Xn _ hne2];exact hz g2 (List.mem_cons_of_mem _ hg2)
  show l.foldl (pushS x) (l.foldl popS (pushS x (popS s g) g))=_
  rw [key l (popS s g) n2 h1]
  rfl
theorem Sq (t:Int):∀(l:List Int) (b:Int),(l.foldl (fun b y=>if b<0∨(y-t+10)%10<(b-t+10)%10 then y else b) b)=b∨(l.foldl (fun b y=>if b<0∨(y-t+10)%10<(b-t+10)%10 then y else b) b)∈l
 | [],b=>.inl rfl
 | y::l,b=>by
  rw [List.foldl_cons]
  rcases Sq t l (if b<0∨(y-t+10)%10<(b-t+10)%10 then y else b) with h|h
  ·rw [h];split
   ·exact .inr (List.mem_cons_self ..)
   ·exact .inl rfl
  ·exact .inr (List.mem_cons_of_mem _ h)
theorem Gq {t:Int} {l:List Int} (h:0≤firstF t l):firstF t l∈l:=by
 rcases Sq t l (-1) with g|g
 ·unfold firstF at h;rw [g] at h;omega
 ·exact g
theorem Kx {x:NetD} {a p:Nat} {u:List Bool} (h:0≤pickN x a p u):(pickN x a p u).toNat∈freeN x a p u:=by
 have:=Gq h
 obtain ⟨i,hi,he⟩:=List.mem_map.1 this
 have e:pickN x a p u=(i:Int):=he.symm
 rw [e];simpa using hi
theorem P0 {x:NetD} {a p i:Nat} {u:List Bool} (h:i∈freeN x a p u):i<10∧reqN x a i p∧u.getD (i/2) false=false:=by
 obtain ⟨h1,h2⟩:=List.mem_filter.1 h
 obtain ⟨h3,h4⟩:=List.mem_filter.1 h1
 exact ⟨List.mem_range.1 h3,by simpa using h4,by simpa using h2⟩
theorem Va (x:NetD) (a p:Nat):grTo x a (p+1)=grStep x a (grTo x a p) p:=by
 unfold grTo;rw [List.range_succ,List.foldl_append];rfl
structure GrOk (x:NetD) (a p:Nat) (st:List GrD×List Bool):Prop where
 len:st.2.length=5
 at':∀g∈st.1,g.1=a∧g.2.1<p∧g.2.2<10∧reqN x a g.2.2 g.2.1∧st.2.getD (g.2.2/2) false=true
 nd:(st.1.map frm).Nodup
 le:st.1.length≤p
theorem Qas {u:List Bool} {k j:Nat} (h:u.getD j false=true):(u.set k true).getD j false=true:=by
 simp only [List.getD_eq_getElem?_getD,List.getElem?_set] at *
 split
 ·split<;>simp_all
 ·exact h
theorem Z2 (x:NetD) (a:Nat):∀p,p≤5→GrOk x a p (grTo x a p)
 | 0,_=>⟨rfl,fun g h=>by simp [grTo] at h,by simp [grTo],by simp [grTo]⟩
 | p+1,hp=>by
  obtain ⟨h1,h2,h3,h4⟩:=Z2 x a p (by omega)
  rw [Va]
  unfold grStep
  generalize grTo x a p=st at *
  split
  ·rename_i hk
   obtain ⟨k1,k2,k3⟩:=P0 (Kx hk)
   generalize hk':(pickN x a p st.2).toNat=k at *
   refine ⟨by simpa using h1,fun g hg=>?_,?_,by simp only [List.length_append,List.length_cons,List.length_nil];omega⟩
   ·rcases List.mem_append.1 hg with hg|hg
    ·obtain ⟨g1,g2,g3,g4,g5⟩:=h2 g hg
     exact ⟨g1,by omega,g3,g4,Qas g5⟩
    ·have:=List.mem_singleton.1 hg
     subst this
     exact ⟨rfl,by simp,k1,k2,by show (st.2.set (k/2) true).getD (k/2) false=true;rw [List.getD_eq_getElem?_getD,List.getElem?_set_self (by rw [h1];omega)];rfl⟩
   ·rw [List.map_append]
    refine List.nodup_append.2 ⟨h3,by simp,fun y hy z hz e=>?_⟩
    obtain ⟨g,hg,rfl⟩:=List.mem_map.1 hy
    simp at hz
    obtain ⟨g1,g2,g3,g4,g5⟩:=h2 g hg
    have:g.2.2=k:=by have:frm g=frm (a,p,k):=e.trans hz;unfold frm at this;simp only at this;omega
    rw [this,k3] at g5
    simp at g5
  ·exact ⟨h1,fun g hg=>by obtain ⟨g1,g2,g3,g4,g5⟩:=h2 g hg;exact ⟨g1,by omega,g3,g4,g5⟩,h3,by omega⟩
theorem Z1 (x:NetD) (n:Nat):allTo x (n+1)=allTo x n++grN x n:=by
 unfold allTo;rw [List.range_succ,List.flatMap_append];simp
theorem Et (x:NetD) (a:Nat):(grN x a).length≤5:=(Z2 x a 5 (by omega)).le
theorem Zk (x:NetD):∀n,(∀g∈allTo x n,g.1<n∧g.2.1<5∧g.2.2<10∧reqN x g.1 g.2.2 g.2.1)∧((allTo x n).map frm).Nodup∧(allTo x n).length≤5*n
 | 0=>⟨fun g h=>by simp [allTo] at h,by simp [allTo],by simp [allTo]⟩
 | n+1=>by
  obtain ⟨h1,h2,h3⟩:=Zk x n
  obtain ⟨_,k2,k3,k4⟩:=Z2 x n 5 (by omega)
  rw [Z1]
  refine ⟨fun g hg=>?_,?_,by simp [grN];omega⟩
  ·rcases List.mem_append.1 hg with hg|hg
   ·obtain ⟨a1,a2⟩:=h1 g hg;exact ⟨by omega,a2⟩
   ·obtain ⟨a1,a2,a3,a4,_⟩:=k2 g hg
    exact ⟨by omega,a2,a3,by rw [a1];exact a4⟩
  ·rw [List.map_append]
   refine List.nodup_append.2 ⟨h2,k3,fun y hy z hz e=>?_⟩
   obtain ⟨g,hg,rfl⟩:=List.mem_map.1 hy
   obtain ⟨g',hg',rfl⟩:=List.mem_map.1 hz
   have a1:=h1 g hg
   have a2:=k2 g' hg'
   unfold frm at e;omega
theorem X9 {x:NetD} {g:GrD} (h:g∈allN x):(g.1:Int)<cnt x.1.1 x.1.2.1∧g.2.1<5∧g.2.2<10∧reqN x g.1 g.2.2 g.2.1:=by
 obtain ⟨h1,h2⟩:=(Zk x _).1 g h
 exact ⟨by omega,h2⟩
theorem Rt (x:NetD):((allN x).map frm).Nodup:=(Zk x _).2.1
theorem Tp (x:NetD):(allN x).length≤80:=by
 have:=(Zk x (cnt x.1.1 x.1.2.1).toNat).2.2
 have:=Qm x.1.1 x.1.2.1
 unfold allN;omega
theorem Sk {x:NetD} {a i p:Nat} (h:reqN x a i p):x.2.2.1.getD (10*a+i) []≠[]:=fun e=>by
 have:=h.1
 unfold wantedN at this
 rw [if_pos e] at this
 omega
theorem Uz {l:List FlitD} (h:l≠[]):headL l∈l:=by
 cases l with
 | nil=>exact absurd rfl h
 | cons a l=>exact List.mem_cons_self ..
def allP (P:Nat→FlitD→Prop) (s:SSD):Prop:=∀j,∀f∈s.getD j [],P j f
def runOk (x:NetD):Prop:=classesOk x.1.1 x.1.2.1 x.1.2.2 x.2.1.1 x.2.1.2∧sizesOk x∧allP (fun j f=>f.2.2.1=(j:Int)%2∧flitOk x.1.1 x.1.2.1 f) x.2.2.1∧allP (fun _ f=>flitOk x.1.1 x.1.2.1 f) x.2.2.2.2.2.1∧∀o∈x.2.2.2.2.1,inR 0 o 9
theorem Mu {P:Nat→FlitD→Prop} {s:SSD} {k:Nat} (h:allP P s):allP P (upd s k (List.drop 1)):=fun j f hf=>by
 by_cases e:k=j
 ·subst e
  by_cases hl:k<s.length
  ·rw [Ub _ hl] at hf;exact h k f (List.mem_of_mem_drop hf)
  ·simp [upd,List.getD_eq_getElem?_getD,List.getElem?_eq_none (Nat.le_of_not_lt hl),List.set_eq_of_length_le (Nat.le_of_not_lt hl)] at hf
 ·rw [Xn _ e] at hf;exact h j f hf
theorem Ml {P:Nat→FlitD→Prop} {s:SSD} {k:Nat} {y:FlitD} (h:allP P s) (hy:P k y):allP P (upd s k (·++[y])):=fun j f hf=>by
 by_cases e:k=j
 ·subst e
  by_cases hl:k<s.length
  ·rw [Ub _ hl] at hf
   rcases List.mem_append.1 hf with hf|hf
   ·exact h k f hf
   ·rw [List.mem_singleton.1 hf];exact hy
  ·simp [upd,List.getD_eq_getElem?_getD,List.getElem?_eq_none (Nat.le_of_not_lt hl),List.set_eq_of_length_le (Nat.le_of_not_lt hl)] at hf
 ·rw [Xn _ e] at hf;exact h j f hf
theorem Xy {α β:Type} {f:β→α→β} (I:β→Prop):∀(l:List α) (s:β),I s→(∀s a,a∈l→I s→I (f s a))→I (l.foldl f s)
 | [],s,h,_=>h
 | a::l,s,h,k=>Xy I l _ (k s a (List.mem_cons_self ..) h) fun s b hb=>k s b (List.mem_cons_of_mem _ hb)
theorem Vz {x:NetD} {a p c:Nat} (h:has x.1.1 x.1.2.1 x.1.2.2 (4*(a:Int)+p)) (hp:p<4) :
 isN x.1.1 x.1.2.1 (next x.1.1 x.1.2.1 a p)∧0≤opp p∧opp p<4:=by
 obtain ⟨_,_,h3⟩:=U2 (w:=x.1.1) (h:=x.1.2.1) (a:=a) (p:=p) (b:=x.1.2.2) ⟨by omega,by omega⟩ h
 refine ⟨h3,?_⟩
 unfold opp
 rw [if_neg (by omega),if_pos (by omega)]
 omega
theorem Yk {x:NetD} {a p c:Nat} (h:has x.1.1 x.1.2.1 x.1.2.2 (4*(a:Int)+p)) (hp:p<4) (hc:c<2) :
 ((tgt x a p c:Nat):Int)=10*next x.1.1 x.1.2.1 a p+2*opp p+c∧((tgt x a p c:Nat):Int)<10*cnt x.1.1 x.1.2.1∧((tgt x a p c:Nat):Int)%2=c:=by
 obtain ⟨⟨h1,h2⟩,h3,h4⟩:=Vz (c:=c) h hp
 unfold tgt
 generalize next x.1.1 x.1.2.1 a p=N at *
 generalize opp p=O at *
 refine ⟨by omega,by omega,by omega⟩
theorem Qbf {x:NetD} (h:runOk x) {a i p:Nat} (r:reqN x a i p):(headOf x (10*a+i)).2.2.1=((10*a+i:Nat):Int)%2∧flitOk x.1.1 x.1.2.1 (headOf x (10*a+i)):=
 h.2.2.1 _ _ (Uz (Sk r))
theorem Uj {x:NetD} (h:runOk x) {k:Nat} (r:x.2.2.2.2.2.1.getD k []≠[]):flitOk x.1.1 x.1.2.1 (srcHead x k)∧(entAt x k:Int)=10*k+8+(srcHead x k).2.2.1∧(entAt x k:Int)%2=(srcHead x k).2.2.1:=by
 have:=h.2.2.2.1 k _ (Uz r)
 have h2:=this.2
 unfold inR at h2
 refine ⟨this,?_⟩
 unfold entAt srcHead
 omega
theorem Xo {x:NetD} {k:Nat} (h:k∈enterN x):(k:Int)<cnt x.1.1 x.1.2.1∧entersN x k:=by
 obtain ⟨h1,h2⟩:=List.mem_filter.1 h
 have:=List.mem_range.1 h1
 exact ⟨by omega,by simpa using h2⟩
theorem Sz (x:NetD):(enterN x).Nodup:=List.Pairwise.filter _ List.nodup_range
theorem Z6 (x:NetD):(enterN x).length≤16:=by
 have h1:=List.length_filter_le (fun k=>decide (entersN x k)) (List.range (cnt x.1.1 x.1.2.1).toNat)
 have:=Qm x.1.1 x.1.2.1
 rw [List.length_range] at h1
 unfold enterN;omega
theorem R6 {x:NetD} (h:runOk x):runOk (stepN x):=by
 have hx:=h
 obtain ⟨h1,⟨s1,s2,s3,s4,s5⟩,h3,h4,h5⟩:=h
 refine ⟨h1,⟨?_,?_,?_,?_,?_⟩,?_,?_,?_⟩
 ·show (((enterN x).foldl (entS x) ((allN x).foldl (pushS x) ((allN x).foldl popS x.2.2.1))).length:Int)=_
  rw [Wd (Py x),Wd (Ss x),Wd I7];exact s1
 ·show (((allN x).foldl (ownS x) x.2.2.2.1).length:Int)=_
  rw [Wd (O3 x)];exact s2
 ·show (((allN x).foldl turnS x.2.2.2.2.1).length:Int)=_
  rw [Wd Sn];exact s3
 ·show (((enterN x).foldl srcS x.2.2.2.2.2.1).length:Int)=_
  rw [Wd Ph];exact s4
 ·show (((allN x).foldl (arrS x) x.2.2.2.2.2.2.1).length:Int)=_
  rw [Wd (Pg x)];exact s5
 ·refine Xy _ _ _ (Xy _ _ _ (Xy _ _ _ h3 fun s g hg hs=>Mu hs) fun s g hg hs=>?_) fun s k hk hs=>?_
  ·unfold pushS
   split
   ·exact hs
   ·rename_i hp
    obtain ⟨a1,a2,a3,a4⟩:=X9 hg
    have hh:=a4.2.1
    rcases hh with hh|⟨hh,_⟩
    ·exact absurd hh hp
    obtain ⟨t1,t2,t3⟩:=Yk (c:=g.2.2%2) hh (by omega) (by omega)
    obtain ⟨e1,e2⟩:=Qbf hx a4
    refine Ml hs ⟨?_,e2⟩
    show (headOf x (10*g.1+g.2.2)).2.2.1=_
    rw [e1,t3];omega
  ·obtain ⟨_,e1,_⟩:=Xo hk
   obtain ⟨f1,f2,f3⟩:=Uj hx e1
   exact Ml hs ⟨f3.symm,f1⟩
 ·exact Xy _ _ _ h4 fun s k hk hs=>Mu hs
 ·refine Xy (fun s:List Int=>∀o∈s,inR 0 o 9) _ _ h5 fun s g hg hs o ho=>?_
  rcases List.mem_or_eq_of_mem_set ho with ho|rfl
  ·exact hs o ho
  ·unfold inR;omega
def allL (L:Nat) (s:SSD):Prop:=∀l∈s,l.length≤L
theorem E4 {s:SSD} {k:Nat} {f:List FlitD→List FlitD} {l:List FlitD} (h:l∈upd s k f):l∈s∨(l=f (s.getD k [])∧k<s.length):=by
 unfold upd at h
 by_cases hl:k<s.length
 ·rcases List.mem_or_eq_of_mem_set h with h|h
  ·exact .inl h
  ·exact .inr ⟨h,hl⟩
 ·rw [List.set_eq_of_length_le (Nat.le_of_not_lt hl)] at h;exact .inl h
theorem Tu {s:SSD} {k:Nat} (hl:k<s.length):s.getD k []∈s:=by
 simp [List.getD_eq_getElem?_getD,hl]
theorem U1 {L:Nat} {s:SSD} {k:Nat} (h:allL L s):allL L (upd s k (List.drop 1)):=fun l hl=>by
 rcases E4 hl with hl|⟨rfl,hk⟩
 ·exact h l hl
 ·have:=h _ (Tu hk);rw [List.length_drop];omega
theorem Sy {L:Nat} {s:SSD} {k:Nat} {y:FlitD} (h:allL L s):allL (L+1) (upd s k (·++[y])):=fun l hl=>by
 rcases E4 hl with hl|⟨rfl,hk⟩
 ·have:=h l hl;omega
 ·have:=h _ (Tu hk);simp only [List.length_append,List.length_cons,List.length_nil];omega
theorem Wb {L M:Nat} {s:SSD} (h:allL L s) (k:L≤M):allL M s:=fun l hl=>by have:=h l hl;omega
theorem Wy {α:Type} {f:SSD→α→SSD} (hf:∀s a L,allL L s→allL (L+1) (f s a)):∀(l:List α) (s:SSD) (L:Nat),allL L s→allL (L+l.length) (l.foldl f s)
 | [],s,L,h=>by simpa using h
 | a::l,s,L,h=>by
  have:=Wy hf l (f s a) (L+1) (hf s a L h)
  rw [List.foldl_cons,List.length_cons]
  exact Wb this (by omega)
theorem Mt {L:Nat} (l:List GrD) (s:SSD) (h:allL L s):allL L (l.foldl popS s):=Xy _ _ _ h fun s g hg hs=>U1 hs
theorem Dr {L:Nat} (l:List Nat) (s:SSD) (h:allL L s):allL L (l.foldl srcS s):=Xy _ _ _ h fun s g hg hs=>U1 hs
theorem U0 (x:NetD) (s:SSD) (g:GrD) (L:Nat) (h:allL L s):allL (L+1) (pushS x s g):=by
 unfold pushS;split
 ·exact Wb h (by omega)
 ·exact Sy h
theorem Om (x:NetD) (s:SSD) (g:GrD) (L:Nat) (h:allL L s):allL (L+1) (arrS x s g):=by
 unfold arrS;split
 ·exact Sy h
 ·exact Wb h (by omega)
theorem N8 (x:NetD) (s:SSD) (g:GrD) (L:Nat) (h:allL L s):allL (L+1) (bothS x s g):=U0 x _ g L (U1 h)
theorem R9 (x:NetD) (s:SSD) (k:Nat) (L:Nat) (h:allL L s):allL (L+1) (entS x s k):=Sy h
theorem Ct {x:NetD} {L:Nat} (h1:allL L x.2.2.1) (h2:allL L x.2.2.2.2.2.2.1):allL (L+96) (stepN x).2.2.1∧allL (L+96) (stepN x).2.2.2.2.2.2.1:=by
 have a1:=Tp x
 have a2:=Z6 x
 refine ⟨?_,?_⟩
 ·exact Wb (Wy (R9 x) (enterN x) _ _ (Wy (U0 x) (allN x) _ _ (Mt (allN x) _ h1))) (by omega)
 ·exact Wb (Wy (Om x) (allN x) _ _ h2) (by omega)
end Go.Proofs.YtlhaeingdonaeaaGreat.V
set_option linter.all false
namespace Go.Proofs.YtlhaeingdonaeaaGreat.V
open Go Go.VM Go.Proofs
set_option maxRecDepth 10000
variable {frz:Nat} {H:Heap}
theorem Zm (ys:List Int):ones (cellsOf Fl.int ys)=true:=by
 rw [Q5];unfold ones
 rw [List.all_eq_true]
 intro x hx
 obtain ⟨y,_,rfl⟩:=List.mem_map.1 hx
 rfl
theorem Vx (w h:Int) (v:Value) (b:List Int) (hI:IsI H v b) (hl:b.length≤1073741824):wp (vcall C frz 126 [.agg #[.int .i64 w,.int .i64 h,v]] H) (dMesh.Made H (w,h,b)):=by
 rw [Qb (fn:=Tryz.f126) Tryz.func126 rfl (by kernel_rfl) rfl]
 have one:=And.intro hI.one' hI.cells
 simp [one]
 rw [Y6 (h:=⟨by kernel_rfl,by kernel_rfl⟩)]
 simp [emps,empOp,empB,one,(hI.app _).src]
 by_cases h0:b=[]
 ·subst h0
  simp
  exact ⟨_,rfl,⟨.inl ⟨rfl,rfl⟩,by simp⟩,Chg.app _,by simp [dMesh],by simp [dMesh]⟩
 ·simp [h0,hl]
  exact ⟨_,rfl,⟨Ow.new (D:=Fl.int) (e:=3) (xs:=b) (k:=2) (by simp) (Q5 _).symm (by simp) rfl,hl⟩,Chg.app _,by simp [dMesh],Qq (.slice (some ⟨H.length+2,0,some 0⟩) b.length 0)⟩
theorem So (w h:Int) (v:Value) (b:List Int) (hI:IsI H v b) (hl:b.length≤1073741824):wp (vcall C frz 99 [.agg #[.int .i64 w,.int .i64 h,v]] H) (dMesh.Made H (w,h,b)):=by
 rw [Qb (fn:=Tryz.f99) Tryz.func99 rfl (by kernel_rfl) rfl]
 have one:=And.intro hI.one' hI.cells
 simp [one]
 rw [Y6 (h:=⟨by kernel_rfl,by kernel_rfl⟩)]
 simp [emps,empOp,empB,one,(hI.app _).src]
 by_cases h0:b=[]
 ·subst h0
  simp
  exact ⟨_,rfl,⟨.inl ⟨rfl,rfl⟩,by simp⟩,Chg.app _,by simp [dMesh],by simp [dMesh]⟩
 ·simp [h0,hl]
  exact ⟨_,rfl,⟨Ow.new (D:=Fl.int) (e:=3) (xs:=b) (k:=2) (by simp) (Q5 _).symm (by simp) rfl,hl⟩,Chg.app _,by simp [dMesh],Qq (.slice (some ⟨H.length+2,0,some 0⟩) b.length 0)⟩
theorem Uo (v:Value) (xs:List Int) (hI:IsI H v xs) (hl:xs.length≤1073741824):wp (vcall C frz 169 [.agg #[v]] H) (dTable.Made H xs):=by
 rw [Qb (fn:=Tryz.f169) Tryz.func169 rfl (by kernel_rfl) rfl]
 have one:=And.intro hI.one' hI.cells
 simp [one,(hI.app _).src]
 by_cases h0:xs=[]
 ·subst h0
  simp
  exact ⟨_,rfl,⟨Ow.new (D:=Fl.int) (e:=3) (xs:=[]) (k:=2) (by simp) rfl rfl rfl,by simp⟩,Chg.app _,by simp [dTable],Qq (.slice (some ⟨H.length+2,0,some 0⟩) 0 0)⟩
 ·simp [h0,hl]
  exact ⟨_,rfl,⟨Ow.new (D:=Fl.int) (e:=3) (xs:=xs) (k:=2) (by simp) (Q5 _).symm (by simp) rfl,hl⟩,Chg.app _,by simp [dTable],Qq (.slice (some ⟨H.length+2,0,some 1⟩) xs.length 0)⟩
theorem Sr (v:Value) (xs:List Int) (hI:IsI H v xs) (hl:xs.length≤1073741824):wp (vcall C frz 155 [.agg #[v]] H) (dTable.Made H xs):=by
 rw [Qb (fn:=Tryz.f155) Tryz.func155 rfl (by kernel_rfl) rfl]
 have one:=And.intro hI.one' hI.cells
 simp [one,(hI.app _).src]
 by_cases h0:xs=[]
 ·subst h0
  simp
  exact ⟨_,rfl,⟨Ow.new (D:=Fl.int) (e:=3) (xs:=[]) (k:=2) (by simp) rfl rfl rfl,by simp⟩,Chg.app _,by simp [dTable],Qq (.slice (some ⟨H.length+2,0,some 0⟩) 0 0)⟩
 ·simp [h0,hl]
  exact ⟨_,rfl,⟨Ow.new (D:=Fl.int) (e:=3) (xs:=xs) (k:=2) (by simp) (Q5 _).symm (by simp) rfl,hl⟩,Chg.app _,by simp [dTable],Qq (.slice (some ⟨H.length+2,0,some 1⟩) xs.length 0)⟩
theorem Ty:∀(hs:List Value),(hs.flatMap ids).Nodup→∀{i j:Nat} {a b:Value},i≠j→hs[i]? = some a→hs[j]? = some b→∀x∈ids a,x∉ids b
 | [],_,i,j,a,b,_,h1,_=>by simp at h1
 | c::hs,nd,i,j,a,b,hij,h1,h2=>by
  rw [List.flatMap_cons] at nd
  obtain ⟨n1,n2,n3⟩:=List.nodup_append.1 nd
  intro x hx hx'
  cases i with
  | zero=>
   cases j with
   | zero=>exact absurd rfl hij
   | succ j=>
    simp at h1 h2
    subst h1
    exact n3 x hx x (List.mem_flatMap.2 ⟨b,List.mem_of_getElem? h2,hx'⟩) rfl
  | succ i=>
   cases j with
   | zero=>
    simp at h1 h2
    subst h2
    exact n3 x hx' x (List.mem_flatMap.2 ⟨a,List.mem_of_getElem? h1,hx⟩) rfl
   | succ j=>exact Ty hs n2 (i:=i) (j:=j) (fun e=>hij (by omega)) (by simpa using h1) (by simpa using h2) x hx hx'
def ahead (a:SSD) (i:Nat):Nat:=((a.take i).map List.length).sum
theorem V7 (a:SSD) {i:Nat} (h:i<a.length):ahead a (i+1)=ahead a i+(a.getD i []).length:=by
 unfold ahead;rw [Gb a h,List.getD_eq_getElem?_getD,List.getElem?_eq_getElem h];rfl
theorem T4 (a:SSD) (h2:∀xs∈a,xs.length≤67108864):∀i,i≤a.length→ahead a i≤67108864*i
 | 0,_=>by simp [ahead]
 | i+1,h=>by
  have:=T4 a h2 i (by omega)
  have hm:=h2 _ (List.getElem_mem (show i<a.length by omega))
  rw [V7 a (by omega),List.getD_eq_getElem?_getD,List.getElem?_eq_getElem (by omega)]
  simp;omega
theorem U9 (v:Value) (xs:List Int) (hI:Rd Fl.int H v xs) (hl:xs.length≤1073741824):∃r L,vappend Tryz.prog frz H 24 24 (.slice none 0 0) v=some (r,H++L)∧dIntS.Ow (H++L) r xs∧(∀i∈ids r,H.length≤i):=by
 have hs:=hI.src
 simp only [Fl.int_n] at hs
 by_cases h0:xs=[]
 ·subst h0
  refine ⟨.slice none 0 0,[],?_,⟨.inl ⟨rfl,rfl⟩,by simp⟩,by simp⟩
  simp [hs]
 ·refine ⟨.slice (some ⟨H.length,0,some 0⟩) xs.length 0,[⟨cellsOf Fl.int xs,0,3⟩],?_,⟨Ow.new0 rfl rfl (Zm xs) rfl,hl⟩,by simp⟩
  have:xs.length≠0:=fun hh=>h0 (List.length_eq_zero_iff.1 hh)
  simp [hs,h0,hl,Zm]
theorem Ui (v:Value) (hs:List Value) (xss:SSD) (hI:RdL flF H v hs xss) (hb:xss.length≤2097152) (hb2:∀xs∈xss,xs.length≤67108864) :
 wp (vcall C frz 128 [v] H) (dSS.Made H xss):=by
 rw [Qb (fn:=Tryz.f128) Tryz.func128 rfl (by kernel_rfl) rfl]
 have hl:=hI.2.1
 simp [(hI.app).1.len (P:=Tryz.prog) (ty:=46) (by simp),hl]
 refine Qk (fun n t H'=>∃(i:Nat) (out:Value) (gs:List Value),n=xss.length-i∧i≤xss.length∧t 7=v∧t 8=.int .i64 xss.length∧t 9=.int .i64 i∧t 3=out∧gs.length=i∧Ow Fl.val 145 H' out gs∧Chg H H' []∧
  (∀(j:Nat) (a:Value) (xs:List FlitD),gs[j]? = some a→xss[j]? = some xs→Ow flF 148 H' a xs)∧(∀x∈idsL out gs,H.length≤x∧x<H'.length)∧(idsL out gs).Nodup) ?_ (n:=xss.length)
  ⟨0,.slice (some ⟨H.length,0,some 0⟩) 0 0,[],rfl,by omega,by simp,by simp,by simp,by simp,rfl,Ow.new0 (D:=Fl.val) (xs:=[]) rfl rfl rfl rfl,Chg.app _,by simp,by simp [idsL],by simp [idsL]⟩
 rintro n t H' ⟨i,out,gs,rfl,hi,t7,t8,t9,t3,hgl,o,c,hin,hids,hnd⟩ ih
 have rd:=hI.chg c (by simp)
 have l0:=c.1
 simp [t7,t8,t9,t3,rd.1.len (P:=Tryz.prog) (ty:=46) (by simp),hl]
 refine Qc ?_ ?_<;>intro h
 ·have h':i<xss.length:=by omega
  obtain ⟨u,a1,a2,a3,a4⟩:=Wf rd (ty:=46) (e:=145) (by simp) (by simp) h'
  have hm:=hb2 _ (List.getElem_mem h')
  have a2':vindexAddr Tryz.prog (H'++[⟨[],0,148⟩]) 46 v (.int .i64 i)=some (elp v i):=by
   obtain ⟨_,_,q,_,_⟩:=Wf (rd.app (L:=[⟨[],0,148⟩])) (ty:=46) (e:=145) (by simp) (by simp) h';exact q
  have a3':vload Tryz.prog (H'++[⟨[],0,148⟩]) 145 (elp v i)=some u:=by
   obtain ⟨u',q1,_,q,_⟩:=Wf (rd.app (L:=[⟨[],0,148⟩])) (ty:=46) (e:=145) (by simp) (by simp) h'
   rw [a1] at q1;cases q1;exact q
  have o0:Ow flF 148 (H'++[⟨[],0,148⟩]) (.slice (some ⟨H'.length,0,some 0⟩) 0 0) []:=Ow.new0 (D:=flF) (xs:=[]) rfl rfl rfl rfl
  obtain ⟨r,H2,hap,or_,c1,n1⟩:=o0.append (P:=Tryz.prog) (frz:=H.length) (ty:=145) (a4.app (L:=[⟨[],0,148⟩])) (by simp) (Yw _) (by simp;omega) (by simp;omega)
  rw [List.nil_append] at or_
  have l1:=c1.1
  simp at l1
  have cc1:Chg H' H2 []:=(Chg.app []).trans' c1 (fun x hx=>.inr (by simp at hx;omega))
  have nr:∀x∈ids r,H'.length≤x:=fun x hx=>by
   rcases n1 x hx with h1|h1
   ·simp at h1;omega
   ·simp at h1;omega
  have oo:=o.chg cc1 (by simp)
  have hout:∀x∈ids out,H.length≤x∧x<H'.length:=fun x hx=>hids x (List.mem_append.2 (.inl hx))
  obtain ⟨out',H4,hap2,o4,c4,n4⟩:=oo.push (P:=Tryz.prog) (frz:=H.length) (ty:=46) (a:=r) (by simp) (by simp [or_.rd.one']) (by omega) (fun x hx=>(hout x hx).1)
  simp only [Fl.val_f] at hap2
  have l4:=c4.1
  have one:=And.intro or_.rd.one' or_.rd.cells
  have rlt:=or_.lt
  have o4lt:=o4.lt
  simp [-Qv,t7,t8,t9,t3,a2,a3,a2',a3',hap,hap2,one]
  refine ih (xss.length-(i+1)) _ _ ⟨i+1,out',gs++[r],rfl,by omega,by simp [t7],by simp [t8],?_,by simp,by simp [hgl],o4,(c.trans cc1).trans' c4 (fun x hx=>.inr (hout x hx).1),fun j a xs ha hx=>?_,fun x hx=>?_,?_⟩ (by omega)
  ·simp;rw [w64 (by omega) (by omega)]
  ·by_cases hj:j<gs.length
   ·rw [List.getElem?_append_left hj] at ha
    refine ((hin j a xs ha hx).chg cc1 (by simp)).chg c4 (fun y hy hh=>?_)
    exact (List.nodup_append.1 hnd).2.2 y hh y (List.mem_flatMap.2 ⟨a,List.mem_of_getElem? ha,hy⟩) rfl
   ·rw [List.getElem?_append_right (by omega)] at ha
    have hj2:=(List.getElem?_eq_some_iff.1 ha).1
    simp at hj2
    have:j=i:=by omega
    subst this
    rw [show j-gs.length=0 by omega] at ha
    simp at ha
    subst ha
    rw [List.getElem?_eq_getElem h'] at hx
    cases hx
    exact or_.chg c4 (fun y hy hh=>by have:=nr y hy;have:=(hout y hh).2;omega)
  ·rcases List.mem_append.1 hx with hx|hx
   ·have h2:=o4lt x hx
    rcases n4 x hx with h1|h1
    ·exact ⟨(hout x h1).1,h2⟩
    ·exact ⟨by omega,h2⟩
   ·rw [List.flatMap_append] at hx
    rcases List.mem_append.1 hx with hx|hx
    ·have:=hids x (List.mem_append.2 (.inr hx));omega
    ·simp at hx
     have:=nr x hx;have:=rlt x hx;omega
  ·obtain ⟨d1,d2,d3⟩:=List.nodup_append.1 hnd
   have hgl2:∀x∈gs.flatMap ids,x<H'.length:=fun x hx=>(hids x (List.mem_append.2 (.inr hx))).2
   refine List.nodup_append.2 ⟨Qq _,?_,fun a ha b hb e=>?_⟩
   ·rw [List.flatMap_append]
    exact Wu d2 (by simpa using Qq r) (n:=H'.length) hgl2 (fun x hx=>by simp at hx;exact nr x hx)
   ·subst e
    rw [List.flatMap_append] at hb
    rcases n4 a ha with h1|h1
    ·rcases List.mem_append.1 hb with hb|hb
     ·exact d3 a h1 a hb rfl
     ·simp at hb
      have:=nr a hb;have:=(hout a h1).2;omega
    ·rcases List.mem_append.1 hb with hb|hb
     ·have:=hgl2 a hb;omega
     ·simp at hb
      have:=rlt a hb;omega
 ·have:i=xss.length:=by omega
  subst this
  simp [t7,t8,t9,t3]
  exact ⟨(out,gs),rfl,⟨⟨o,hgl,hin⟩,hb,hb2⟩,c,fun x hx=>(hids x hx).1,hnd⟩
theorem V6 (v:Value) (hs:List Value) (xss:SSD) (hI:RdL flF H v hs xss) (hb:xss.length≤2097152) (hb2:∀xs∈xss,xs.length≤67108864) :
 wp (vcall C frz 101 [v] H) (dSS.Made H xss):=by
 rw [Qb (fn:=Tryz.f101) Tryz.func101 rfl (by kernel_rfl) rfl]
 have hl:=hI.2.1
 simp [(hI.app).1.len (P:=Tryz.prog) (ty:=46) (by simp),hl]
 refine Qk (fun n t H'=>∃(i:Nat) (out:Value) (gs:List Value),n=xss.length-i∧i≤xss.length∧t 0=v∧t 4=.int .i64 i∧t 3=out∧gs.length=i∧Ow Fl.val 145 H' out gs∧Chg H H' []∧
  (∀(j:Nat) (a:Value) (xs:List FlitD),gs[j]? = some a→xss[j]? = some xs→Ow flF 148 H' a xs)∧(∀x∈idsL out gs,H.length≤x∧x<H'.length)∧(idsL out gs).Nodup) ?_ (n:=xss.length)
  ⟨0,.slice (some ⟨H.length,0,some 0⟩) 0 0,[],rfl,by omega,by simp,by simp,by simp,rfl,Ow.new0 (D:=Fl.val) (xs:=[]) rfl rfl rfl rfl,Chg.app _,by simp,by simp [idsL],by simp [idsL]⟩
 rintro n t H' ⟨i,out,gs,rfl,hi,t0,t4,t3,hgl,o,c,hin,hids,hnd⟩ ih
 have rd:=hI.chg c (by simp)
 have l0:=c.1
 simp [t0,t4,t3,rd.1.len (P:=Tryz.prog) (ty:=46) (by simp),hl]
 refine Qc ?_ ?_<;>intro h
 ·have h':i<xss.length:=by omega
  obtain ⟨u,a1,a2,a3,a4⟩:=Wf rd (ty:=46) (e:=145) (by simp) (by simp) h'
  have hm:=hb2 _ (List.getElem_mem h')
  have a2':vindexAddr Tryz.prog (H'++[⟨[],0,148⟩]) 46 v (.int .i64 i)=some (elp v i):=by
   obtain ⟨_,_,q,_,_⟩:=Wf (rd.app (L:=[⟨[],0,148⟩])) (ty:=46) (e:=145) (by simp) (by simp) h';exact q
  have a3':vload Tryz.prog (H'++[⟨[],0,148⟩]) 145 (elp v i)=some u:=by
   obtain ⟨u',q1,_,q,_⟩:=Wf (rd.app (L:=[⟨[],0,148⟩])) (ty:=46) (e:=145) (by simp) (by simp) h'
   rw [a1] at q1;cases q1;exact q
  have o0:Ow flF 148 (H'++[⟨[],0,148⟩]) (.slice (some ⟨H'.length,0,some 0⟩) 0 0) []:=Ow.new0 (D:=flF) (xs:=[]) rfl rfl rfl rfl
  obtain ⟨r,H2,hap,or_,c1,n1⟩:=o0.append (P:=Tryz.prog) (frz:=H.length) (ty:=145) (a4.app (L:=[⟨[],0,148⟩])) (by simp) (Yw _) (by simp;omega) (by simp;omega)
  rw [List.nil_append] at or_
  have l1:=c1.1
  simp at l1
  have cc1:Chg H' H2 []:=(Chg.app []).trans' c1 (fun x hx=>.inr (by simp at hx;omega))
  have nr:∀x∈ids r,H'.length≤x:=fun x hx=>by
   rcases n1 x hx with h1|h1
   ·simp at h1;omega
   ·simp at h1;omega
  have oo:=o.chg cc1 (by simp)
  have hout:∀x∈ids out,H.length≤x∧x<H'.length:=fun x hx=>hids x (List.mem_append.2 (.inl hx))
  obtain ⟨out',H4,hap2,o4,c4,n4⟩:=oo.push (P:=Tryz.prog) (frz:=H.length) (ty:=46) (a:=r) (by simp) (by simp [or_.rd.one']) (by omega) (fun x hx=>(hout x hx).1)
  simp only [Fl.val_f] at hap2
  have l4:=c4.1
  have one:=And.intro or_.rd.one' or_.rd.cells
  have rlt:=or_.lt
  have o4lt:=o4.lt
  simp [-Qv,t0,t4,t3,a2,a3,a2',a3',hap,hap2,one]
  refine ih (xss.length-(i+1)) _ _ ⟨i+1,out',gs++[r],rfl,by omega,by simp [t0],?_,by simp,by simp [hgl],o4,(c.trans cc1).trans' c4 (fun x hx=>.inr (hout x hx).1),fun j a xs ha hx=>?_,fun x hx=>?_,?_⟩ (by omega)
  ·simp;rw [w64 (by omega) (by omega)]
  ·by_cases hj:j<gs.length
   ·rw [List.getElem?_append_left hj] at ha
    refine ((hin j a xs ha hx).chg cc1 (by simp)).chg c4 (fun y hy hh=>?_)
    exact (List.nodup_append.1 hnd).2.2 y hh y (List.mem_flatMap.2 ⟨a,List.mem_of_getElem? ha,hy⟩) rfl
   ·rw [List.getElem?_append_right (by omega)] at ha
    have hj2:=(List.getElem?_eq_some_iff.1 ha).1
    simp at hj2
    have:j=i:=by omega
    subst this
    rw [show j-gs.length=0 by omega] at ha
    simp at ha
    subst ha
    rw [List.getElem?_eq_getElem h'] at hx
    cases hx
    exact or_.chg c4 (fun y hy hh=>by have:=nr y hy;have:=(hout y hh).2;omega)
  ·rcases List.mem_append.1 hx with hx|hx
   ·have h2:=o4lt x hx
    rcases n4 x hx with h1|h1
    ·exact ⟨(hout x h1).1,h2⟩
    ·exact ⟨by omega,h2⟩
   ·rw [List.flatMap_append] at hx
    rcases List.mem_append.1 hx with hx|hx
    ·have:=hids x (List.mem_append.2 (.inr hx));omega
    ·simp at hx
     have:=nr x hx;have:=rlt x hx;omega
  ·obtain ⟨d1,d2,d3⟩:=List.nodup_append.1 hnd
   have hgl2:∀x∈gs.flatMap ids,x<H'.length:=fun x hx=>(hids x (List.mem_append.2 (.inr hx))).2
   refine List.nodup_append.2 ⟨Qq _,?_,fun a ha b hb e=>?_⟩
   ·rw [List.flatMap_append]
    exact Wu d2 (by simpa using Qq r) (n:=H'.length) hgl2 (fun x hx=>by simp at hx;exact nr x hx)
   ·subst e
    rw [List.flatMap_append] at hb
    rcases n4 a ha with h1|h1
    ·rcases List.mem_append.1 hb with hb|hb
     ·exact d3 a h1 a hb rfl
     ·simp at hb
      have:=nr a hb;have:=(hout a h1).2;omega
    ·rcases List.mem_append.1 hb with hb|hb
     ·have:=hgl2 a hb;omega
     ·simp at hb
      have:=rlt a hb;omega
 ·have:i=xss.length:=by omega
  subst this
  simp [t0,t4,t3]
  exact ⟨(out,gs),rfl,⟨⟨o,hgl,hin⟩,hb,hb2⟩,c,fun x hx=>(hids x hx).1,hnd⟩
end Go.Proofs.YtlhaeingdonaeaaGreat.V
