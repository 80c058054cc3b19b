/- Texts of a proof, joined. -/
import Derived.Test.YtlhaeingdonaeaaGreatProg
import Derived.KernelRfl
import Derived.Test.YtlhaeingdonaeaaGreatKM0
import Derived.Test.YtlhaeingdonaeaaGreatKM1
namespace Go.Proofs.YtlhaeingdonaeaaGreat.V
open Go Go.VM Go.Proofs
noncomputable def C:Ctx:={ P:=Tryz.prog,mode:=fun g=>if [15,16,17,40,41,48,49,51,80,85,86,87,93,94,96,150,151,154,174,178,199,209,228,243,248,249,250,251,252,253,255,256,263,270,272,273,274,281].contains g then 2 else if [8,9,10,11,24,25,28,30,31,32,34,36,46,47,56,61,63,67,68,69,70,72,73,75,91,92,99,100,101,106,108,109,110,111,114,115,116,117,119,120,121,125,126,127,128,131,136,138,139,140,142,144,145,146,155,157,158,159,160,164,169,172,175,179,180,182,183,184,189,196,203,204,205,210,217,218,220,224,231,233,238,244,259,283].contains g then 1 else 0,ext:=fun _=>none }
@[simp] theorem CP:C.P=Tryz.prog:=rfl
theorem drawn:qu C:=qy C (by kernel_rfl)
@[simp] theorem Q2c:C.mode 0=0:=rfl
@[simp] theorem Q23:C.mode 1=0:=rfl
@[simp] theorem Q2r:C.mode 2=0:=rfl
@[simp] theorem Q25:C.mode 3=0:=rfl
@[simp] theorem Q2l:C.mode 4=0:=rfl
@[simp] theorem Q2w:C.mode 5=0:=rfl
@[simp] theorem Q2m:C.mode 6=0:=rfl
@[simp] theorem Q2n:C.mode 7=0:=rfl
@[simp] theorem Q2t:C.mode 8=1:=rfl
@[simp] theorem Q20:C.mode 9=1:=rfl
@[simp] theorem Qyl:C.mode 10=1:=rfl
@[simp] theorem Q0h:C.mode 11=1:=rfl
@[simp] theorem Q1i:C.mode 12=0:=rfl
@[simp] theorem Qz2:C.mode 13=0:=rfl
@[simp] theorem Qzb:C.mode 14=0:=rfl
@[simp] theorem Q1j:C.mode 15=2:=rfl
@[simp] theorem Q09:C.mode 16=2:=rfl
@[simp] theorem Q1b:C.mode 17=2:=rfl
@[simp] theorem Q1v:C.mode 18=0:=rfl
@[simp] theorem Q18:C.mode 19=0:=rfl
@[simp] theorem Qyf:C.mode 20=0:=rfl
@[simp] theorem Qz3:C.mode 21=0:=rfl
@[simp] theorem Qzn:C.mode 22=0:=rfl
@[simp] theorem Q14:C.mode 23=0:=rfl
@[simp] theorem Qz1:C.mode 24=1:=rfl
@[simp] theorem Qx3:C.mode 25=1:=rfl
@[simp] theorem Qx7:C.mode 26=0:=rfl
@[simp] theorem Qyz:C.mode 27=0:=rfl
@[simp] theorem Qz4:C.mode 28=1:=rfl
@[simp] theorem Qzz:C.mode 29=0:=rfl
@[simp] theorem Q0d:C.mode 30=1:=rfl
@[simp] theorem Q0c:C.mode 31=1:=rfl
@[simp] theorem Q1q:C.mode 32=1:=rfl
@[simp] theorem Qzm:C.mode 33=0:=rfl
@[simp] theorem Q10:C.mode 34=1:=rfl
@[simp] theorem Qyu:C.mode 35=0:=rfl
@[simp] theorem Q0p:C.mode 36=1:=rfl
@[simp] theorem Q17:C.mode 37=0:=rfl
@[simp] theorem Q08:C.mode 38=0:=rfl
@[simp] theorem Qx6:C.mode 39=0:=rfl
@[simp] theorem Qxw:C.mode 40=2:=rfl
@[simp] theorem Qzk:C.mode 41=2:=rfl
@[simp] theorem Q1z:C.mode 42=0:=rfl
@[simp] theorem Q1g:C.mode 43=0:=rfl
@[simp] theorem Qza:C.mode 44=0:=rfl
@[simp] theorem Qxz:C.mode 45=0:=rfl
@[simp] theorem Qx4:C.mode 46=1:=rfl
@[simp] theorem Q1f:C.mode 47=1:=rfl
@[simp] theorem Q1n:C.mode 48=2:=rfl
@[simp] theorem Qzu:C.mode 49=2:=rfl
@[simp] theorem Qzj:C.mode 50=0:=rfl
@[simp] theorem Qx0:C.mode 51=2:=rfl
@[simp] theorem Qyi:C.mode 52=0:=rfl
@[simp] theorem Q0k:C.mode 53=0:=rfl
@[simp] theorem Qyx:C.mode 54=0:=rfl
@[simp] theorem Q00:C.mode 55=0:=rfl
@[simp] theorem Qy1:C.mode 56=1:=rfl
@[simp] theorem Qzo:C.mode 57=0:=rfl
@[simp] theorem Qzx:C.mode 58=0:=rfl
@[simp] theorem Qzl:C.mode 59=0:=rfl
@[simp] theorem Q0z:C.mode 60=0:=rfl
@[simp] theorem Qyv:C.mode 61=1:=rfl
@[simp] theorem Q15:C.mode 62=0:=rfl
@[simp] theorem Qy4:C.mode 63=1:=rfl
@[simp] theorem Qyc:C.mode 64=0:=rfl
@[simp] theorem Qyq:C.mode 65=0:=rfl
@[simp] theorem Q1d:C.mode 66=0:=rfl
@[simp] theorem Q1k:C.mode 67=1:=rfl
@[simp] theorem Qx8:C.mode 68=1:=rfl
@[simp] theorem Q0w:C.mode 69=1:=rfl
@[simp] theorem Q13:C.mode 70=1:=rfl
@[simp] theorem Q1p:C.mode 71=0:=rfl
@[simp] theorem Q1y:C.mode 72=1:=rfl
@[simp] theorem Q1a:C.mode 73=1:=rfl
@[simp] theorem Qy3:C.mode 74=0:=rfl
@[simp] theorem Q04:C.mode 75=1:=rfl
@[simp] theorem Qy7:C.mode 76=0:=rfl
@[simp] theorem Q0b:C.mode 77=0:=rfl
@[simp] theorem Qz6:C.mode 78=0:=rfl
@[simp] theorem Qzi:C.mode 79=0:=rfl
@[simp] theorem Qy8:C.mode 80=2:=rfl
@[simp] theorem Qyy:C.mode 81=0:=rfl
@[simp] theorem Qxx:C.mode 82=0:=rfl
@[simp] theorem Qy9:C.mode 83=0:=rfl
@[simp] theorem Q0g:C.mode 84=0:=rfl
@[simp] theorem Qyk:C.mode 85=2:=rfl
@[simp] theorem Qyo:C.mode 86=2:=rfl
@[simp] theorem Qzd:C.mode 87=2:=rfl
@[simp] theorem Qyp:C.mode 88=0:=rfl
@[simp] theorem Q01:C.mode 89=0:=rfl
@[simp] theorem Qye:C.mode 90=0:=rfl
@[simp] theorem Q0v:C.mode 91=1:=rfl
@[simp] theorem Qx1:C.mode 92=1:=rfl
@[simp] theorem Qzg:C.mode 93=2:=rfl
@[simp] theorem Qzv:C.mode 94=2:=rfl
@[simp] theorem Q1l:C.mode 95=0:=rfl
@[simp] theorem Qx9:C.mode 96=2:=rfl
@[simp] theorem Q1r:C.mode 97=0:=rfl
@[simp] theorem Qys:C.mode 98=0:=rfl
@[simp] theorem Qy2:C.mode 99=1:=rfl
@[simp] theorem Qq7:C.mode 100=1:=rfl
@[simp] theorem Qwq:C.mode 101=1:=rfl
@[simp] theorem Qxl:C.mode 102=0:=rfl
@[simp] theorem Qvj:C.mode 103=0:=rfl
@[simp] theorem Qrv:C.mode 104=0:=rfl
@[simp] theorem Qrs:C.mode 105=0:=rfl
@[simp] theorem Qrc:C.mode 106=1:=rfl
@[simp] theorem Qsq:C.mode 107=0:=rfl
@[simp] theorem Qw5:C.mode 108=1:=rfl
@[simp] theorem Qu9:C.mode 109=1:=rfl
@[simp] theorem Qxe:C.mode 110=1:=rfl
@[simp] theorem Qxm:C.mode 111=1:=rfl
@[simp] theorem Qs7:C.mode 112=0:=rfl
@[simp] theorem Qti:C.mode 113=0:=rfl
@[simp] theorem Qxh:C.mode 114=1:=rfl
@[simp] theorem Qu3:C.mode 115=1:=rfl
@[simp] theorem Qw0:C.mode 116=1:=rfl
@[simp] theorem Qsu:C.mode 117=1:=rfl
@[simp] theorem Qs2:C.mode 118=0:=rfl
@[simp] theorem Qt0:C.mode 119=1:=rfl
@[simp] theorem Qr8:C.mode 120=1:=rfl
@[simp] theorem Qwa:C.mode 121=1:=rfl
@[simp] theorem Qs8:C.mode 122=0:=rfl
@[simp] theorem Qrq:C.mode 123=0:=rfl
@[simp] theorem Qwu:C.mode 124=0:=rfl
@[simp] theorem Quv:C.mode 125=1:=rfl
@[simp] theorem Qus:C.mode 126=1:=rfl
@[simp] theorem Qv5:C.mode 127=1:=rfl
@[simp] theorem Qt8:C.mode 128=1:=rfl
@[simp] theorem Qxd:C.mode 129=0:=rfl
@[simp] theorem Qxc:C.mode 130=0:=rfl
@[simp] theorem Qvq:C.mode 131=1:=rfl
@[simp] theorem Qt5:C.mode 132=0:=rfl
@[simp] theorem Qro:C.mode 133=0:=rfl
@[simp] theorem Quw:C.mode 134=0:=rfl
@[simp] theorem Qv4:C.mode 135=0:=rfl
@[simp] theorem Qxb:C.mode 136=1:=rfl
@[simp] theorem Qud:C.mode 137=0:=rfl
@[simp] theorem Qsn:C.mode 138=1:=rfl
@[simp] theorem Qwp:C.mode 139=1:=rfl
@[simp] theorem Qt1:C.mode 140=1:=rfl
@[simp] theorem Qtr:C.mode 141=0:=rfl
@[simp] theorem Qwv:C.mode 142=1:=rfl
@[simp] theorem Quf:C.mode 143=0:=rfl
@[simp] theorem Qwo:C.mode 144=1:=rfl
@[simp] theorem Qtv:C.mode 145=1:=rfl
@[simp] theorem Quq:C.mode 146=1:=rfl
@[simp] theorem Qtk:C.mode 147=0:=rfl
@[simp] theorem Qwy:C.mode 148=0:=rfl
@[simp] theorem Qvv:C.mode 149=0:=rfl
@[simp] theorem Qvd:C.mode 150=2:=rfl
@[simp] theorem Qst:C.mode 151=2:=rfl
@[simp] theorem Qs0:C.mode 152=0:=rfl
@[simp] theorem Qq9:C.mode 153=0:=rfl
@[simp] theorem Qra:C.mode 154=2:=rfl
@[simp] theorem Qtw:C.mode 155=1:=rfl
@[simp] theorem Qv3:C.mode 156=0:=rfl
@[simp] theorem Qvx:C.mode 157=1:=rfl
@[simp] theorem Qui:C.mode 158=1:=rfl
@[simp] theorem Qrj:C.mode 159=1:=rfl
@[simp] theorem Qtp:C.mode 160=1:=rfl
@[simp] theorem Qvr:C.mode 161=0:=rfl
@[simp] theorem Qvg:C.mode 162=0:=rfl
@[simp] theorem Qw6:C.mode 163=0:=rfl
@[simp] theorem Qth:C.mode 164=1:=rfl
@[simp] theorem Qss:C.mode 165=0:=rfl
@[simp] theorem Qvu:C.mode 166=0:=rfl
@[simp] theorem Qrb:C.mode 167=0:=rfl
@[simp] theorem Qtb:C.mode 168=0:=rfl
@[simp] theorem Qu0:C.mode 169=1:=rfl
@[simp] theorem Qtu:C.mode 170=0:=rfl
@[simp] theorem Qux:C.mode 171=0:=rfl
@[simp] theorem Qsz:C.mode 172=1:=rfl
@[simp] theorem Qsx:C.mode 173=0:=rfl
@[simp] theorem Qw8:C.mode 174=2:=rfl
@[simp] theorem Qwc:C.mode 175=1:=rfl
@[simp] theorem Qs6:C.mode 176=0:=rfl
@[simp] theorem Qup:C.mode 177=0:=rfl
@[simp] theorem Qre:C.mode 178=2:=rfl
@[simp] theorem Qxv:C.mode 179=1:=rfl
@[simp] theorem Qw7:C.mode 180=1:=rfl
@[simp] theorem Qtf:C.mode 181=0:=rfl
@[simp] theorem Qtg:C.mode 182=1:=rfl
@[simp] theorem Quy:C.mode 183=1:=rfl
@[simp] theorem Qty:C.mode 184=1:=rfl
@[simp] theorem Qur:C.mode 185=0:=rfl
@[simp] theorem Qxk:C.mode 186=0:=rfl
@[simp] theorem Qq8:C.mode 187=0:=rfl
@[simp] theorem Qrf:C.mode 188=0:=rfl
@[simp] theorem Qul:C.mode 189=1:=rfl
@[simp] theorem Qwi:C.mode 190=0:=rfl
@[simp] theorem Qvb:C.mode 191=0:=rfl
@[simp] theorem Qu8:C.mode 192=0:=rfl
@[simp] theorem Qu5:C.mode 193=0:=rfl
@[simp] theorem Qxp:C.mode 194=0:=rfl
@[simp] theorem Qvi:C.mode 195=0:=rfl
@[simp] theorem Qtc:C.mode 196=1:=rfl
@[simp] theorem Qrl:C.mode 197=0:=rfl
@[simp] theorem Qsc:C.mode 198=0:=rfl
@[simp] theorem Qwf:C.mode 199=2:=rfl
@[simp] theorem Qsr:C.mode 200=0:=rfl
@[simp] theorem Quh:C.mode 201=0:=rfl
@[simp] theorem Qr7:C.mode 202=0:=rfl
@[simp] theorem Qrp:C.mode 203=1:=rfl
@[simp] theorem Qvw:C.mode 204=1:=rfl
@[simp] theorem Qsw:C.mode 205=1:=rfl
@[simp] theorem Qrh:C.mode 206=0:=rfl
@[simp] theorem Qug:C.mode 207=0:=rfl
@[simp] theorem Qwj:C.mode 208=0:=rfl
@[simp] theorem Qvt:C.mode 209=2:=rfl
@[simp] theorem Qri:C.mode 210=1:=rfl
@[simp] theorem Qr0:C.mode 211=0:=rfl
@[simp] theorem Qsj:C.mode 212=0:=rfl
@[simp] theorem Qv7:C.mode 213=0:=rfl
@[simp] theorem Qua:C.mode 214=0:=rfl
@[simp] theorem Qvh:C.mode 215=0:=rfl
@[simp] theorem Qu1:C.mode 216=0:=rfl
@[simp] theorem Quo:C.mode 217=1:=rfl
@[simp] theorem Qsg:C.mode 218=1:=rfl
@[simp] theorem Quj:C.mode 219=0:=rfl
@[simp] theorem Qxq:C.mode 220=1:=rfl
@[simp] theorem Qr6:C.mode 221=0:=rfl
@[simp] theorem Qrd:C.mode 222=0:=rfl
@[simp] theorem Qws:C.mode 223=0:=rfl
@[simp] theorem Qva:C.mode 224=1:=rfl
@[simp] theorem Qt4:C.mode 225=0:=rfl
@[simp] theorem Qw9:C.mode 226=0:=rfl
@[simp] theorem Qwk:C.mode 227=0:=rfl
@[simp] theorem Qu6:C.mode 228=2:=rfl
@[simp] theorem Qwn:C.mode 229=0:=rfl
@[simp] theorem Qv1:C.mode 230=0:=rfl
@[simp] theorem Qtt:C.mode 231=1:=rfl
@[simp] theorem Qso:C.mode 232=0:=rfl
@[simp] theorem Qrr:C.mode 233=1:=rfl
@[simp] theorem Qrz:C.mode 234=0:=rfl
@[simp] theorem Qrk:C.mode 235=0:=rfl
@[simp] theorem Qw1:C.mode 236=0:=rfl
@[simp] theorem Qsi:C.mode 237=0:=rfl
@[simp] theorem Qub:C.mode 238=1:=rfl
@[simp] theorem Qun:C.mode 239=0:=rfl
@[simp] theorem Qxa:C.mode 240=0:=rfl
@[simp] theorem Qrt:C.mode 241=0:=rfl
@[simp] theorem Qwz:C.mode 242=0:=rfl
@[simp] theorem Qrm:C.mode 243=2:=rfl
@[simp] theorem Qvc:C.mode 244=1:=rfl
@[simp] theorem Qs9:C.mode 245=0:=rfl
@[simp] theorem Qs3:C.mode 246=0:=rfl
@[simp] theorem Qrx:C.mode 247=0:=rfl
@[simp] theorem Qrg:C.mode 248=2:=rfl
@[simp] theorem Qxj:C.mode 249=2:=rfl
@[simp] theorem Qvy:C.mode 250=2:=rfl
@[simp] theorem Qsl:C.mode 251=2:=rfl
@[simp] theorem Qve:C.mode 252=2:=rfl
@[simp] theorem Quz:C.mode 253=2:=rfl
@[simp] theorem Qu7:C.mode 254=0:=rfl
@[simp] theorem Qsm:C.mode 255=2:=rfl
@[simp] theorem Qtd:C.mode 256=2:=rfl
@[simp] theorem Qte:C.mode 257=0:=rfl
@[simp] theorem Qw2:C.mode 258=0:=rfl
@[simp] theorem Qtz:C.mode 259=1:=rfl
@[simp] theorem Qsd:C.mode 260=0:=rfl
@[simp] theorem Qsb:C.mode 261=0:=rfl
@[simp] theorem Qwm:C.mode 262=0:=rfl
@[simp] theorem Qvf:C.mode 263=2:=rfl
@[simp] theorem Qru:C.mode 264=0:=rfl
@[simp] theorem Quc:C.mode 265=0:=rfl
@[simp] theorem Qvl:C.mode 266=0:=rfl
@[simp] theorem Qxf:C.mode 267=0:=rfl
@[simp] theorem Qtl:C.mode 268=0:=rfl
@[simp] theorem Qse:C.mode 269=0:=rfl
@[simp] theorem Qsy:C.mode 270=2:=rfl
@[simp] theorem Qv2:C.mode 271=0:=rfl
@[simp] theorem Qxu:C.mode 272=2:=rfl
@[simp] theorem Qvp:C.mode 273=2:=rfl
@[simp] theorem Qxr:C.mode 274=2:=rfl
@[simp] theorem Qut:C.mode 275=0:=rfl
@[simp] theorem Qsk:C.mode 276=0:=rfl
@[simp] theorem Qtx:C.mode 277=0:=rfl
@[simp] theorem Qr5:C.mode 278=0:=rfl
@[simp] theorem Qt3:C.mode 279=0:=rfl
@[simp] theorem Qwd:C.mode 280=0:=rfl
@[simp] theorem Qsf:C.mode 281=2:=rfl
@[simp] theorem Qv6:C.mode 282=0:=rfl
@[simp] theorem Qvo:C.mode 283=1:=rfl
@[simp] theorem Qt2:C.mode 284=0:=rfl
@[simp] theorem Qw3:C.mode 285=0:=rfl
@[simp] theorem Qrw:C.mode 286=0:=rfl
@[simp] theorem Qwe:C.mode 287=0:=rfl
@[simp] theorem Qwx:C.mode 288=0:=rfl
@[simp] theorem Qwg:C.mode 289=0:=rfl
@[simp] theorem Qv9:C.mode 290=0:=rfl
@[simp] theorem Qxn:C.mode 291=0:=rfl
@[simp] theorem Qvn:C.mode 292=0:=rfl
@[simp] theorem Qtn:C.mode 293=0:=rfl
@[simp] theorem Qtj:C.mode 294=0:=rfl
@[simp] theorem Qsp:C.mode 295=0:=rfl
@[simp] theorem Qvm:C.mode 296=0:=rfl
@[simp] theorem Qu4:C.mode 297=0:=rfl
@[simp] theorem Qr9:C.mode 298=0:=rfl
@[simp] theorem Qsa:C.mode 299=0:=rfl
@[simp] theorem Qts:C.mode 300=0:=rfl
@[simp] theorem Qr1:C.mode 301=0:=rfl
@[simp] theorem Q29:tsz Tryz.prog 3=some (false,1):=by kernel_rfl
@[simp] theorem Q0a:Zc Tryz.prog 3=some [.int .i64 0]:=by kernel_rfl
@[simp] theorem Q3b:tsz Tryz.prog 4=some (false,1):=by kernel_rfl
@[simp] theorem Q0j:Zc Tryz.prog 4=some [.bool false]:=by kernel_rfl
@[simp] theorem Q02:Tryz.prog.underlying 9=some .string:=by kernel_rfl
@[simp] theorem Q2z:tsz Tryz.prog 23=some (true,2):=by kernel_rfl
@[simp] theorem Qn0:Wp Tryz.prog 23 0=some (0,false,1):=by kernel_rfl
@[simp] theorem Qnc:Wp Tryz.prog 23 1=some (1,false,1):=by kernel_rfl
@[simp] theorem Q22:tsz Tryz.prog 24=some (false,1):=by kernel_rfl
@[simp] theorem Qum:Zc Tryz.prog 24=some [.slice none 0 0]:=by kernel_rfl
@[simp] theorem Q11:Ze Tryz.prog 24=some (3,1):=by kernel_rfl
@[simp] theorem Qzs:Rg Tryz.prog 24=true:=by kernel_rfl
@[simp] theorem Q26:tsz Tryz.prog 26=some (true,3):=by kernel_rfl
@[simp] theorem Qod:Wp Tryz.prog 26 0=some (0,true,2):=by kernel_rfl
@[simp] theorem Qoa:Wp Tryz.prog 26 1=some (2,false,1):=by kernel_rfl
@[simp] theorem Q24:tsz Tryz.prog 28=some (true,1):=by kernel_rfl
@[simp] theorem Qng:Wp Tryz.prog 28 0=some (0,false,1):=by kernel_rfl
@[simp] theorem Q21:tsz Tryz.prog 30=some (true,2):=by kernel_rfl
@[simp] theorem Qmy:Wp Tryz.prog 30 0=some (0,true,1):=by kernel_rfl
@[simp] theorem Qns:Wp Tryz.prog 30 1=some (1,true,1):=by kernel_rfl
@[simp] theorem Q2y:tsz Tryz.prog 31=some (false,1):=by kernel_rfl
@[simp] theorem Qy0:Ze Tryz.prog 31=some (139,1):=by kernel_rfl
@[simp] theorem Q1x:Rg Tryz.prog 31=true:=by kernel_rfl
@[simp] theorem Q2b:tsz Tryz.prog 33=some (true,11):=by kernel_rfl
@[simp] theorem Qog:Wp Tryz.prog 33 0=some (0,true,3):=by kernel_rfl
@[simp] theorem Qmv:Wp Tryz.prog 33 1=some (3,true,2):=by kernel_rfl
@[simp] theorem Qn6:Wp Tryz.prog 33 2=some (5,false,1):=by kernel_rfl
@[simp] theorem Qn8:Wp Tryz.prog 33 3=some (6,false,1):=by kernel_rfl
@[simp] theorem Qn3:Wp Tryz.prog 33 4=some (7,false,1):=by kernel_rfl
@[simp] theorem Qml:Wp Tryz.prog 33 5=some (8,false,1):=by kernel_rfl
@[simp] theorem Qm3:Wp Tryz.prog 33 6=some (9,false,1):=by kernel_rfl
@[simp] theorem Qoe:Wp Tryz.prog 33 7=some (10,false,1):=by kernel_rfl
@[simp] theorem Q2v:tsz Tryz.prog 34=some (false,1):=by kernel_rfl
@[simp] theorem Q0r:Ze Tryz.prog 34=some (120,5):=by kernel_rfl
@[simp] theorem Q0x:Rg Tryz.prog 34=true:=by kernel_rfl
@[simp] theorem Q2u:tsz Tryz.prog 36=some (true,12):=by kernel_rfl
@[simp] theorem Qob:Wp Tryz.prog 36 0=some (0,true,11):=by kernel_rfl
@[simp] theorem Qm5:Wp Tryz.prog 36 1=some (11,false,1):=by kernel_rfl
@[simp] theorem Qzt:Ze Tryz.prog 37=some (83,5):=by kernel_rfl
@[simp] theorem Qyj:Rg Tryz.prog 37=true:=by kernel_rfl
@[simp] theorem Q2k:tsz Tryz.prog 40=some (true,2):=by kernel_rfl
@[simp] theorem Que:Zc Tryz.prog 40=some [.int .i64 0,.int .i64 0]:=by kernel_rfl
@[simp] theorem Qmh:Wp Tryz.prog 40 0=some (0,false,1):=by kernel_rfl
@[simp] theorem Qny:Wp Tryz.prog 40 1=some (1,false,1):=by kernel_rfl
@[simp] theorem Q2q:tsz Tryz.prog 42=some (true,3):=by kernel_rfl
@[simp] theorem Qr4:Zc Tryz.prog 42=some [.int .i64 0,.int .i64 0,.slice none 0 0]:=by kernel_rfl
@[simp] theorem Qmj:Wp Tryz.prog 42 0=some (0,true,2):=by kernel_rfl
@[simp] theorem Qmr:Wp Tryz.prog 42 1=some (2,false,1):=by kernel_rfl
@[simp] theorem Qmz:Vb Tryz.prog 42=some [(0,2),(2,1)]:=by kernel_rfl
@[simp] theorem Q2e:tsz Tryz.prog 43=some (true,1):=by kernel_rfl
@[simp] theorem Qtm:Zc Tryz.prog 43=some [.slice none 0 0]:=by kernel_rfl
@[simp] theorem Qnx:Wp Tryz.prog 43 0=some (0,false,1):=by kernel_rfl
@[simp] theorem Qmk:Vb Tryz.prog 43=some [(0,1)]:=by kernel_rfl
@[simp] theorem Q2g:tsz Tryz.prog 45=some (true,2):=by kernel_rfl
@[simp] theorem Qt9:Zc Tryz.prog 45=some [.slice none 0 0,.slice none 0 0]:=by kernel_rfl
@[simp] theorem Qnv:Wp Tryz.prog 45 0=some (0,true,1):=by kernel_rfl
@[simp] theorem Qn9:Wp Tryz.prog 45 1=some (1,true,1):=by kernel_rfl
@[simp] theorem Qn4:Vb Tryz.prog 45=some [(0,1),(1,1)]:=by kernel_rfl
@[simp] theorem Q2h:tsz Tryz.prog 46=some (false,1):=by kernel_rfl
@[simp] theorem Qzh:Ze Tryz.prog 46=some (145,1):=by kernel_rfl
@[simp] theorem Qz0:Rg Tryz.prog 46=true:=by kernel_rfl
@[simp] theorem Q2s:tsz Tryz.prog 48=some (true,11):=by kernel_rfl
@[simp] theorem Qsh:Zc Tryz.prog 48=some [.int .i64 0,.int .i64 0,.slice none 0 0,.slice none 0 0,.slice none 0 0,.slice none 0 0,.slice none 0 0,.slice none 0 0,.slice none 0 0,.slice none 0 0,.int .i64 0]:=by kernel_rfl
@[simp] theorem Qnw:Wp Tryz.prog 48 0=some (0,true,3):=by kernel_rfl
@[simp] theorem Qmo:Wp Tryz.prog 48 1=some (3,true,2):=by kernel_rfl
@[simp] theorem Qnp:Wp Tryz.prog 48 2=some (5,false,1):=by kernel_rfl
@[simp] theorem Qnq:Wp Tryz.prog 48 3=some (6,false,1):=by kernel_rfl
@[simp] theorem Qni:Wp Tryz.prog 48 4=some (7,false,1):=by kernel_rfl
@[simp] theorem Qm6:Wp Tryz.prog 48 5=some (8,false,1):=by kernel_rfl
@[simp] theorem Qnh:Wp Tryz.prog 48 6=some (9,false,1):=by kernel_rfl
@[simp] theorem Qm0:Wp Tryz.prog 48 7=some (10,false,1):=by kernel_rfl
@[simp] theorem Qmg:Vb Tryz.prog 48=some [(0,3),(3,2),(5,1),(6,1),(7,1),(8,1),(9,1),(10,1)]:=by kernel_rfl
@[simp] theorem Q2d:tsz Tryz.prog 49=some (false,1):=by kernel_rfl
@[simp] theorem Qzy:Ze Tryz.prog 49=some (104,5):=by kernel_rfl
@[simp] theorem Qx5:Rg Tryz.prog 49=true:=by kernel_rfl
@[simp] theorem Q27:tsz Tryz.prog 51=some (true,12):=by kernel_rfl
@[simp] theorem Qwr:Zc Tryz.prog 51=some [.int .i64 0,.int .i64 0,.slice none 0 0,.slice none 0 0,.slice none 0 0,.slice none 0 0,.slice none 0 0,.slice none 0 0,.slice none 0 0,.slice none 0 0,.int .i64 0,.slice none 0 0]:=by kernel_rfl
@[simp] theorem Qmq:Wp Tryz.prog 51 0=some (0,true,11):=by kernel_rfl
@[simp] theorem Qn5:Wp Tryz.prog 51 1=some (11,false,1):=by kernel_rfl
@[simp] theorem Qmi:Vb Tryz.prog 51=some [(0,11),(11,1)]:=by kernel_rfl
@[simp] theorem Q16:Ze Tryz.prog 55=some (79,5):=by kernel_rfl
@[simp] theorem Qyw:Rg Tryz.prog 55=true:=by kernel_rfl
@[simp] theorem Q2o:tsz Tryz.prog 79=some (true,5):=by kernel_rfl
@[simp] theorem Qt7:Zc Tryz.prog 79=some [.int .i64 0,.int .i64 0,.int .i64 0,.int .i64 0,.int .i64 0]:=by kernel_rfl
@[simp] theorem Qnm:Wp Tryz.prog 79 0=some (0,false,1):=by kernel_rfl
@[simp] theorem Qnu:Wp Tryz.prog 79 1=some (1,false,1):=by kernel_rfl
@[simp] theorem Qm8:Wp Tryz.prog 79 2=some (2,false,1):=by kernel_rfl
@[simp] theorem Qoj:Wp Tryz.prog 79 3=some (3,false,1):=by kernel_rfl
@[simp] theorem Qn2:Wp Tryz.prog 79 4=some (4,false,1):=by kernel_rfl
@[simp] theorem Qwl:Nf Tryz.prog 79=some [0,0,0,0,0]:=by kernel_rfl
@[simp] theorem Qms:Vb Tryz.prog 79=some [(0,1),(1,1),(2,1),(3,1),(4,1)]:=by kernel_rfl
@[simp] theorem Q2a:tsz Tryz.prog 83=some (true,5):=by kernel_rfl
@[simp] theorem Qnl:Wp Tryz.prog 83 0=some (0,false,1):=by kernel_rfl
@[simp] theorem Qnf:Wp Tryz.prog 83 1=some (1,false,1):=by kernel_rfl
@[simp] theorem Qn7:Wp Tryz.prog 83 2=some (2,false,1):=by kernel_rfl
@[simp] theorem Qnb:Wp Tryz.prog 83 3=some (3,false,1):=by kernel_rfl
@[simp] theorem Qoi:Wp Tryz.prog 83 4=some (4,false,1):=by kernel_rfl
@[simp] theorem Q1s:tsz Tryz.prog 104=some (true,5):=by kernel_rfl
@[simp] theorem Qp4:Zc Tryz.prog 104=some [.int .i64 0,.int .i64 0,.int .i64 0,.int .i64 0,.int .i64 0]:=by kernel_rfl
@[simp] theorem Qlk:Wp Tryz.prog 104 0=some (0,false,1):=by kernel_rfl
@[simp] theorem Qlm:Wp Tryz.prog 104 1=some (1,false,1):=by kernel_rfl
@[simp] theorem Qlr:Wp Tryz.prog 104 2=some (2,false,1):=by kernel_rfl
@[simp] theorem Qkz:Wp Tryz.prog 104 3=some (3,false,1):=by kernel_rfl
@[simp] theorem Qma:Wp Tryz.prog 104 4=some (4,false,1):=by kernel_rfl
@[simp] theorem Qju:Vb Tryz.prog 104=some [(0,1),(1,1),(2,1),(3,1),(4,1)]:=by kernel_rfl
@[simp] theorem Q06:tsz Tryz.prog 120=some (true,5):=by kernel_rfl
@[simp] theorem Qkc:Wp Tryz.prog 120 0=some (0,false,1):=by kernel_rfl
@[simp] theorem Qkj:Wp Tryz.prog 120 1=some (1,false,1):=by kernel_rfl
@[simp] theorem Ql1:Wp Tryz.prog 120 2=some (2,false,1):=by kernel_rfl
@[simp] theorem Qjz:Wp Tryz.prog 120 3=some (3,false,1):=by kernel_rfl
@[simp] theorem Ql7:Wp Tryz.prog 120 4=some (4,false,1):=by kernel_rfl
@[simp] theorem Q05:tsz Tryz.prog 139=some (false,1):=by kernel_rfl
@[simp] theorem Qu2:Ze Tryz.prog 139=some (197,5):=by kernel_rfl
@[simp] theorem Qr2:Rg Tryz.prog 139=true:=by kernel_rfl
@[simp] theorem Qzc:tsz Tryz.prog 145=some (false,1):=by kernel_rfl
@[simp] theorem Qov:Zc Tryz.prog 145=some [.slice none 0 0]:=by kernel_rfl
@[simp] theorem Qrn:Ze Tryz.prog 145=some (148,5):=by kernel_rfl
@[simp] theorem Qsv:Rg Tryz.prog 145=true:=by kernel_rfl
@[simp] theorem Q1h:tsz Tryz.prog 148=some (true,5):=by kernel_rfl
@[simp] theorem Qon:Zc Tryz.prog 148=some [.int .i64 0,.int .i64 0,.int .i64 0,.bool false,.bool false]:=by kernel_rfl
@[simp] theorem Qlt:Wp Tryz.prog 148 0=some (0,false,1):=by kernel_rfl
@[simp] theorem Ql9:Wp Tryz.prog 148 1=some (1,false,1):=by kernel_rfl
@[simp] theorem Qj8:Wp Tryz.prog 148 2=some (2,false,1):=by kernel_rfl
@[simp] theorem Qk4:Wp Tryz.prog 148 3=some (3,false,1):=by kernel_rfl
@[simp] theorem Ql0:Wp Tryz.prog 148 4=some (4,false,1):=by kernel_rfl
@[simp] theorem Qpy:Nf Tryz.prog 148=some [0,0,0,1,1]:=by kernel_rfl
@[simp] theorem Qj2:Vb Tryz.prog 148=some [(0,1),(1,1),(2,1),(3,1),(4,1)]:=by kernel_rfl
@[simp] theorem Qxg:Ze Tryz.prog 156=some (188,3):=by kernel_rfl
@[simp] theorem Qvz:Rg Tryz.prog 156=true:=by kernel_rfl
@[simp] theorem Qyh:tsz Tryz.prog 188=some (true,3):=by kernel_rfl
@[simp] theorem Qpi:Zc Tryz.prog 188=some [.int .i64 0,.int .i64 0,.int .i64 0]:=by kernel_rfl
@[simp] theorem Qmd:Wp Tryz.prog 188 0=some (0,false,1):=by kernel_rfl
@[simp] theorem Qjy:Wp Tryz.prog 188 1=some (1,false,1):=by kernel_rfl
@[simp] theorem Qld:Wp Tryz.prog 188 2=some (2,false,1):=by kernel_rfl
@[simp] theorem Qlc:Vb Tryz.prog 188=some [(0,1),(1,1),(2,1)]:=by kernel_rfl
@[simp] theorem Qx2:tsz Tryz.prog 197=some (true,5):=by kernel_rfl
@[simp] theorem Qk9:Wp Tryz.prog 197 0=some (0,false,1):=by kernel_rfl
@[simp] theorem Qj4:Wp Tryz.prog 197 1=some (1,false,1):=by kernel_rfl
@[simp] theorem Qko:Wp Tryz.prog 197 2=some (2,false,1):=by kernel_rfl
@[simp] theorem Qll:Wp Tryz.prog 197 3=some (3,false,1):=by kernel_rfl
@[simp] theorem Qmb:Wp Tryz.prog 197 4=some (4,false,1):=by kernel_rfl
@[simp] theorem Qwt:Ze Tryz.prog 208=some (4,1):=by kernel_rfl
@[simp] theorem Qze:tsz Tryz.prog 230=some (true,5):=by kernel_rfl
@[simp] theorem Qoo:Zc Tryz.prog 230=some [.bool false,.bool false,.bool false,.bool false,.bool false]:=by kernel_rfl
@[simp] theorem Qry:Qfv Tryz.prog 230=some (5,1):=by kernel_rfl
@[simp] theorem Qzf:tsz Tryz.prog 248=some (false,1):=by kernel_rfl
@[simp] theorem Qol:Zc Tryz.prog 248=some [.int .u64 0]:=by kernel_rfl
@[simp] theorem Qw4:Ze Tryz.prog 253=some (24,1):=by kernel_rfl
@[simp] theorem Qww:Rg Tryz.prog 253=true:=by kernel_rfl
end Go.Proofs.YtlhaeingdonaeaaGreat.V
set_option linter.all false
namespace Go.Proofs.YtlhaeingdonaeaaGreat.V
open Go Go.VM
def rd (b:List Int) (j:Int):Int:=b.getD j.toNat 0
def Xa (lo n hi:Int):Prop:=lo≤n∧n≤hi
instance (lo n hi:Int):Decidable (Xa lo n hi):=inferInstanceAs (Decidable (_∧_))
def wi (w h:Int):Prop:=(1≤w∧w≤4)∧1≤h∧h≤4
instance (w h:Int):Decidable (wi w h):=inferInstanceAs (Decidable (_∧_))
def cnt (w h:Int):Int:=if wi w h then w*h else 0
def Y6 (w h n:Int):Prop:=0≤n∧n<cnt w h
instance (w h n:Int):Decidable (Y6 w h n):=inferInstanceAs (Decidable (_∧_))
def nodeAt (w h x y:Int):Int:=if wi w h∧(0≤x∧x<w)∧0≤y∧y<h then y*w+x else -1
def next (w h n p:Int):Int:=
 if Y6 w h n then
  (if p=0 then nodeAt w h (n%w) (n/w-1) else if p=1 then nodeAt w h (n%w+1) (n/w) else if p=2 then nodeAt w h (n%w) (n/w+1)
   else if p=3 then nodeAt w h (n%w-1) (n/w) else if p=4 then n else -1)
 else -1
def leads (w h c:Int):Prop:=(0≤c∧c<4*cnt w h)∧0≤next w h (c/4) (c%4)
instance (w h c:Int):Decidable (leads w h c):=inferInstanceAs (Decidable (_∧_))
def Ml (p:Int):Int:=if p=4 then 4 else if 0≤p∧p≤3 then (p+2)%4 else -1
def T8 (w h:Int) (b:List Int) (j:Nat):Prop:=leads w h (b.getD j 0)∧(0<j→b.getD (j-1) 0<b.getD j 0)
instance (w h:Int) (b:List Int) (j:Nat):Decidable (T8 w h b j):=inferInstanceAs (Decidable (_∧_))
def Zo (w h:Int) (b:List Int):Prop:=(∀j,j<b.length→T8 w h b j)∧wi w h
instance (w h:Int) (b:List Int):Decidable (Zo w h b):=inferInstanceAs (Decidable (_∧_))
def has (w h:Int) (b:List Int) (c:Int):Prop:=leads w h c∧c∉b
instance (w h:Int) (b:List Int) (c:Int):Decidable (has w h b c):=inferInstanceAs (Decidable (_∧_))
theorem Vm {w h:Int} (h1:wi w h):1≤w*h∧w*h≤16:=by
 obtain ⟨⟨a1,a2⟩,b1,b2⟩:=h1
 have c1:1*1≤w*h:=Int.mul_le_mul a1 b1 (by omega) (by omega)
 have c2:w*h≤4*4:=Int.mul_le_mul a2 b2 (by omega) (by omega)
 omega
theorem Qz (w h:Int):0≤cnt w h∧cnt w h≤16:=by
 unfold cnt;split
 ·rename_i h1;have:=Vm h1;omega
 ·omega
theorem S8 {w h n:Int} (h1:Y6 w h n):wi w h∧0≤n∧n<w*h∧n<16:=by
 obtain ⟨a,b⟩:=h1
 have:=Qz w h
 unfold cnt at b;split at b
 ·rename_i hg;have:=Vm hg;exact ⟨hg,a,b,by omega⟩
 ·omega
theorem Q0 {x:Int} (h1 : -9223372036854775808≤x) (h2:x≤9223372036854775807):IntKind.i64.wrap x=x:=by rw [IntKind.wrap_i64];omega
theorem w6 (x:Int) (h : -9223372036854775808≤x∧x≤9223372036854775807):∀[Inhabited Unit],IntKind.i64.wrap x=x:=by intro _;exact Q0 h.1 h.2
end Go.Proofs.YtlhaeingdonaeaaGreat.V
set_option linter.all false
namespace Go.Proofs.YtlhaeingdonaeaaGreat.V
open Go Go.VM Go.Proofs
set_option maxRecDepth 10000
variable {frz:Nat} {H:Qd}
theorem Wd (n lo hi:Int):Qh C frz 134 [.int .i64 n,.int .i64 lo,.int .i64 hi] H=some (.bool (decide (Xa lo n hi)),H):=by
 rw [Qb (fn:=Tryz.f134) Tryz.func134 rfl (by kernel_rfl) rfl]
 simp
 repeat' (first|refine Xs _ _ ?_ ?_|refine Q7 _ ?_ ?_)<;>intro h<;>simp [h,Xa]
theorem Ws (n lo hi:Int):Qh C frz 103 [.int .i64 n,.int .i64 lo,.int .i64 hi] H=some (.bool (decide (Xa lo n hi)),H):=by
 rw [Qb (fn:=Tryz.f103) Tryz.func103 rfl (by kernel_rfl) rfl]
 simp
 repeat' (first|refine Xs _ _ ?_ ?_|refine Q7 _ ?_ ?_)<;>intro h<;>simp [h,Xa]
theorem Kj (w h:Int):Qh C frz 170 [.agg #[.int .i64 w,.int .i64 h]] H=some (.bool (decide (wi w h)),H):=by
 rw [Qb (fn:=Tryz.f170) Tryz.func170 rfl (by kernel_rfl) rfl]
 simp [Wd]
 refine Xs _ _ ?_ ?_<;>intro h1<;>simp [h1,Wd]
 ·have:wi w h↔Xa 1 h 4:=⟨fun g=>g.2,fun g=>⟨h1,g⟩⟩
  simp [this]
 ·exact fun g=>h1 g.1
theorem Jk (w h:Int):Qh C frz 95 [.agg #[.int .i64 w,.int .i64 h]] H=some (.bool (decide (wi w h)),H):=by
 rw [Qb (fn:=Tryz.f95) Tryz.func95 rfl (by kernel_rfl) rfl]
 simp [Ws]
 refine Xs _ _ ?_ ?_<;>intro h1<;>simp [h1,Ws]
 ·have:wi w h↔Xa 1 h 4:=⟨fun g=>g.2,fun g=>⟨h1,g⟩⟩
  simp [this]
 ·exact fun g=>h1 g.1
theorem Xx (w h:Int):Qh C frz 129 [.agg #[.int .i64 w,.int .i64 h]] H=some (.int .i64 (cnt w h),H):=by
 rw [Qb (fn:=Tryz.f129) Tryz.func129 rfl (by kernel_rfl) rfl]
 simp [Kj]
 refine Q7 _ ?_ ?_<;>intro h1<;>simp [h1,cnt]
 have:=Vm h1
 exact Q0 (by omega) (by omega)
theorem W8 (w h:Int):Qh C frz 50 [.agg #[.int .i64 w,.int .i64 h]] H=some (.int .i64 (cnt w h),H):=by
 rw [Qb (fn:=Tryz.f50) Tryz.func50 rfl (by kernel_rfl) rfl]
 simp [Jk]
 refine Q7 _ ?_ ?_<;>intro h1<;>simp [h1,cnt]
 have:=Vm h1
 exact Q0 (by omega) (by omega)
theorem qt (w h n:Int):Xa 0 n (IntKind.i64.wrap (cnt w h-1))↔Y6 w h n:=by
 have:=Qz w h
 rw [Q0 (by omega) (by omega)]
 simp only [Xa,Y6];omega
theorem Zm (w h n:Int):Qh C frz 135 [.agg #[.int .i64 w,.int .i64 h],.int .i64 n] H=some (.bool (decide (Y6 w h n)),H):=by
 rw [Qb (fn:=Tryz.f135) Tryz.func135 rfl (by kernel_rfl) rfl]
 simp [Xx,Wd,qt]
theorem Uy (w h n:Int):Qh C frz 105 [.agg #[.int .i64 w,.int .i64 h],.int .i64 n] H=some (.bool (decide (Y6 w h n)),H):=by
 rw [Qb (fn:=Tryz.f105) Tryz.func105 rfl (by kernel_rfl) rfl]
 simp [W8,Ws,qt]
theorem Qgx (w h x y:Int) (h1:wi w h):(Xa 0 x (IntKind.i64.wrap (w-1))↔0≤x∧x<w)∧(Xa 0 y (IntKind.i64.wrap (h-1))↔0≤y∧y<h):=by
 obtain ⟨⟨a1,a2⟩,b1,b2⟩:=h1
 rw [Q0 (by omega) (by omega),Q0 (by omega) (by omega)]
 simp only [Xa];omega
theorem Qfi {w h x y:Int} (h1:wi w h) (h2:0≤x∧x<w) (h3:0≤y∧y<h):IntKind.i64.wrap (IntKind.i64.wrap (y*w)+x)=y*w+x:=by
 have hm:=Vm h1
 obtain ⟨⟨a1,a2⟩,b1,b2⟩:=h1
 have c1:0*0≤y*w:=Int.mul_le_mul h3.1 (by omega) (by omega) (by omega)
 have c2:y*w≤h*w:=Int.mul_le_mul_of_nonneg_right (by omega) (by omega)
 rw [Int.mul_comm h w] at c2
 rw [Q0 (x:=y*w) (by omega) (by omega),Q0 (by omega) (by omega)]
theorem Nd (w h x y:Int):Qh C frz 267 [.agg #[.int .i64 w,.int .i64 h],.int .i64 x,.int .i64 y] H=some (.int .i64 (nodeAt w h x y),H):=by
 rw [Qb (fn:=Tryz.f267) Tryz.func267 rfl (by kernel_rfl) rfl]
 simp [Kj]
 refine Xs _ _ ?_ ?_<;>intro h1<;>simp [h1,Wd,nodeAt]
 obtain ⟨e1,e2⟩:=Qgx w h x y h1
 simp only [e1,e2]
 refine Xs _ _ ?_ ?_<;>intro h2<;>simp [h2,Wd]
 simp only [e2]
 refine Q7 _ ?_ ?_<;>intro h3<;>simp [h3]
 exact Qfi h1 h2 h3
theorem Pk (w h x y:Int):Qh C frz 192 [.agg #[.int .i64 w,.int .i64 h],.int .i64 x,.int .i64 y] H=some (.int .i64 (nodeAt w h x y),H):=by
 rw [Qb (fn:=Tryz.f192) Tryz.func192 rfl (by kernel_rfl) rfl]
 simp [Jk]
 refine Xs _ _ ?_ ?_<;>intro h1<;>simp [h1,Ws,nodeAt]
 obtain ⟨e1,e2⟩:=Qgx w h x y h1
 simp only [e1,e2]
 refine Xs _ _ ?_ ?_<;>intro h2<;>simp [h2,Ws]
 simp only [e2]
 refine Q7 _ ?_ ?_<;>intro h3<;>simp [h3]
 exact Qfi h1 h2 h3
theorem Sj (w h x y:Int) : -1≤nodeAt w h x y∧nodeAt w h x y<16:=by
 unfold nodeAt
 split
 ·rename_i h1
  obtain ⟨h1,h2,h3⟩:=h1
  have hm:=Vm h1
  obtain ⟨⟨a1,a2⟩,b1,b2⟩:=h1
  have c1:0*0≤y*w:=Int.mul_le_mul h3.1 (by omega) (by omega) (by omega)
  have c2:y*w≤(h-1)*w:=Int.mul_le_mul_of_nonneg_right (by omega) (by omega)
  rw [Int.sub_mul,Int.mul_comm h w] at c2
  omega
 ·omega
theorem Qa9 {n w:Int} (h:0≤n) (h1:1≤w) (h2:n<16):IntKind.i64.wrap (n.tdiv w)=n/w:=by
 rw [Int.tdiv_eq_ediv_of_nonneg h]
 have h3:=Int.ediv_le_self w h
 have h4:=Int.ediv_nonneg h (by omega:0≤w)
 exact Q0 (by omega) (by omega)
theorem Qbj {n w:Int} (h:0≤n):n.tmod w=n%w:=Int.tmod_eq_emod_of_nonneg h
theorem Bi {n w:Int} (h:0≤n) (h1:1≤w) (h2:n<16):0≤n/w∧n/w<16:=⟨Int.ediv_nonneg h (by omega),by have:=Int.ediv_le_self w h;omega⟩
theorem Bd {n w:Int} (h1:1≤w) (h2:w≤4):0≤n%w∧n%w<4:=⟨Int.emod_nonneg _ (by omega),by have:=Int.emod_lt_of_pos n (by omega:0<w);omega⟩
theorem Lj (w h n p:Int):Qh C frz 242 [.agg #[.int .i64 w,.int .i64 h],.int .i64 n,.int .i64 p] H=some (.int .i64 (next w h n p),H):=by
 rw [Qb (fn:=Tryz.f242) Tryz.func242 rfl (by kernel_rfl) rfl]
 simp [Zm]
 refine Q7 _ ?_ ?_<;>intro h1<;>simp [h1,next]
 obtain ⟨⟨⟨a1,a2⟩,b1,b2⟩,g2,g3,g4⟩:=S8 h1
 rw [Qv (h:=by kernel_rfl)]
 simp
 refine Ys (by omega) ?_
 refine Ys (by omega) ?_
 obtain ⟨d1,d2⟩:=Bi g2 a1 g4
 obtain ⟨m1,m2⟩:=Bd (n:=n) a1 a2
 rw [Qa9 g2 a1 g4,Qbj g2]
 refine Q7 _ ?_ ?_<;>intro p0<;>simp [p0,Nd]
 ·rw [Q0 (by omega) (by omega)]
 refine Q7 _ ?_ ?_<;>intro p1<;>simp [p1,Nd]
 ·rw [Q0 (by omega) (by omega)]
 refine Q7 _ ?_ ?_<;>intro p2<;>simp [p2,Nd]
 ·rw [Q0 (by omega) (by omega)]
 refine Q7 _ ?_ ?_<;>intro p3<;>simp [p3,Nd]
 ·rw [Q0 (by omega) (by omega)]
 refine Q7 _ ?_ ?_<;>intro p4<;>simp [p4,Nd]
theorem Zy (w h n p:Int):Qh C frz 161 [.agg #[.int .i64 w,.int .i64 h],.int .i64 n,.int .i64 p] H=some (.int .i64 (next w h n p),H):=by
 rw [Qb (fn:=Tryz.f161) Tryz.func161 rfl (by kernel_rfl) rfl]
 simp [Uy]
 refine Q7 _ ?_ ?_<;>intro h1<;>simp [h1,next]
 obtain ⟨⟨⟨a1,a2⟩,b1,b2⟩,g2,g3,g4⟩:=S8 h1
 refine Ys (by omega) ?_
 refine Ys (by omega) ?_
 obtain ⟨d1,d2⟩:=Bi g2 a1 g4
 obtain ⟨m1,m2⟩:=Bd (n:=n) a1 a2
 rw [Qa9 g2 a1 g4,Qbj g2]
 refine Q7 _ ?_ ?_<;>intro p0<;>simp [p0,Pk]
 ·rw [Q0 (by omega) (by omega)]
 refine Q7 _ ?_ ?_<;>intro p1<;>simp [p1,Pk]
 ·rw [Q0 (by omega) (by omega)]
 refine Q7 _ ?_ ?_<;>intro p2<;>simp [p2,Pk]
 ·rw [Q0 (by omega) (by omega)]
 refine Q7 _ ?_ ?_<;>intro p3<;>simp [p3,Pk]
 ·rw [Q0 (by omega) (by omega)]
 refine Q7 _ ?_ ?_<;>intro p4<;>simp [p4,Pk]
theorem mq (w h n p:Int) : -1≤next w h n p∧next w h n p<16:=by
 unfold next
 split
 ·rename_i h1
  have:=S8 h1
  have a0:=Sj w h (n%w) (n/w-1)
  have a1:=Sj w h (n%w+1) (n/w)
  have a2:=Sj w h (n%w) (n/w+1)
  have a3:=Sj w h (n%w-1) (n/w)
  repeat' split
  all_goals omega
 ·omega
theorem Lx (w h c:Int):Xa 0 c (IntKind.i64.wrap (IntKind.i64.wrap (4*cnt w h)-1))↔0≤c∧c<4*cnt w h:=by
 have:=Qz w h
 rw [Q0 (x:=4*cnt w h) (by omega) (by omega),Q0 (by omega) (by omega)]
 simp only [Xa];omega
theorem O9 {w h c:Int} (h1:0≤c∧c<4*cnt w h):IntKind.i64.wrap (c.tdiv 4)=c/4∧c.tmod 4=c%4:=by
 have:=Qz w h
 rw [Int.tdiv_eq_ediv_of_nonneg h1.1,Int.tmod_eq_emod_of_nonneg h1.1]
 exact ⟨Q0 (by omega) (by omega),rfl⟩
theorem A2 (w h c:Int):Qh C frz 221 [.agg #[.int .i64 w,.int .i64 h],.int .i64 c] H=some (.bool (decide (leads w h c)),H):=by
 rw [Qb (fn:=Tryz.f221) Tryz.func221 rfl (by kernel_rfl) rfl]
 simp [Xx,Wd]
 refine Xs _ _ ?_ ?_<;>intro h1<;>simp [h1]
 ·rw [Lx] at h1
  obtain ⟨e1,e2⟩:=O9 h1
  simp [e1,e2,Lj,leads,h1]
 ·rw [Lx] at h1
  exact fun g=>h1 g.1
theorem Es (w h c:Int):Qh C frz 215 [.agg #[.int .i64 w,.int .i64 h],.int .i64 c] H=some (.bool (decide (leads w h c)),H):=by
 rw [Qb (fn:=Tryz.f215) Tryz.func215 rfl (by kernel_rfl) rfl]
 simp [W8,Ws]
 refine Xs _ _ ?_ ?_<;>intro h1<;>simp [h1]
 ·rw [Lx] at h1
  obtain ⟨e1,e2⟩:=O9 h1
  simp [e1,e2,Zy,leads,h1]
 ·rw [Lx] at h1
  exact fun g=>h1 g.1
theorem Wh (xs:List Int) (i:Nat) (h:i<xs.length):xs.getD i 0=xs[i]:=by simp [List.getD_eq_getElem?_getD,h]
theorem Kc (v:Value) (xs:List Int) (n:Int) (hI:W7 H v xs) (h0:0≤n) (h1:n≤1048576) (h2:xs.length≤9223372036854775807) :
 Qh C frz 55 [v,.int .i64 n] H=some (.int .i64 (if n<xs.length then -1 else n-xs.length),H):=by
 rw [Qb (fn:=Tryz.f55) Tryz.func55 rfl (by kernel_rfl) rfl]
 simp [hI.len]
 rw [Q0 (by omega) (by omega)]
 refine Q7 _ ?_ ?_<;>intro h<;>simp [h]
 ·intro hh;omega
 ·intro hh;omega
theorem Fq (v:Value) (xs:List Int) (hI:W7 H v xs) (hb:xs.length≤1073741824) :
 Qh C frz 21 [v] H=some (.slice (some ⟨H.length,0,some 0⟩) xs.length 0,H++[⟨xs.map (.int .i64),0,3⟩]):=by
 rw [Qb (fn:=Tryz.f21) Tryz.func21 rfl (by kernel_rfl) rfl]
 simp [hI.len]
 refine Ys (by omega) ?_
 refine Z2 (fun n t H'=>∃i:Nat,n=xs.length-i∧i≤xs.length∧t 0=v∧t 3=.slice (some ⟨H.length,0,some 0⟩) xs.length 0∧t 4=.int .i64 i∧
  H'=H++[⟨(xs.map (.int .i64)).take i++List.replicate (xs.length-i) (.int .i64 0),0,3⟩]) ?_ (n:=xs.length) ⟨0,by simp⟩
 rintro n t H' ⟨i,rfl,hi,h0,h3,h4,rfl⟩ ih
 simp [h0,h3,h4,hI.lenA]
 refine Q7 _ ?_ ?_<;>intro h
 ·simp [h0,h3,h4,h,hI.idxA,hI.loadA,Wh]
  refine Ys (by omega) ?_
  refine ih (xs.length-(i+1)) _ _ ⟨i+1,rfl,by omega,by simp [h0],by simp [h3],?_,?_⟩ (by omega)
  ·simp;rw [Q0 (by omega) (by omega)]
  ·rw [wc _ _ _ _ h]
 ·have:i=xs.length:=by omega
  subst this
  simp [h0,h3,h4,me]
theorem Ev (a b:Value) (xs ys:List Int) (ha:W7 H a xs) (hb:W7 H b ys) (hl:xs.length≤1073741824) :
 Qh C frz 13 [a,b] H=some (.bool (decide (xs=ys)),H):=by
 rw [Qb (fn:=Tryz.f13) Tryz.func13 rfl (by kernel_rfl) rfl]
 simp [ha.len,hb.len]
 refine Q7 _ ?_ ?_<;>intro h0<;>simp [h0]
 ·refine Z2 (fun n t H'=>∃i:Nat,n=xs.length-i∧i≤xs.length∧t 0=a∧t 1=b∧t 5=.int .i64 i∧H'=H∧xs.take i=ys.take i) ?_ (n:=xs.length) ⟨0,by simp⟩
  rintro n t H' ⟨i,rfl,hi,h1,h2,h3,rfl,h4⟩ ih
  simp [h1,h2,h3,ha.len]
  refine Q7 _ ?_ ?_<;>intro h
  ·have h':i<ys.length:=by omega
   simp [h1,h2,h3,h]
   rw [Qv (h:=by kernel_rfl)]
   simp [h1,h2,h3,h,h',ha.idx,ha.load,hb.idx,hb.load,Wh]
   refine Q7 _ ?_ ?_<;>intro h5<;>simp [h1,h2,h3,h5]
   ·refine ih (xs.length-(i+1)) _ _ ⟨i+1,rfl,by omega,by simp [h1],by simp [h2],?_,rfl,?_⟩ (by omega)
    ·simp;rw [Q0 (by omega) (by omega)]
    ·rw [List.take_succ_eq_append_getElem h,List.take_succ_eq_append_getElem h',h4];simp [h5]
   ·intro hh;subst hh;simp at h5
  ·have:i=xs.length:=by omega
   subst this
   simp [h1,h2,h3]
   rw [List.take_length,List.take_of_length_le (by omega)] at h4
   exact h4
 ·intro hh;exact h0 (by rw [hh])
theorem Qdy (w h:Int):Qh C frz 123 [.agg #[.int .i64 w,.int .i64 h]] H=some (.agg #[.int .i64 w,.int .i64 h],H):=by
 rw [Qb (fn:=Tryz.f123) Tryz.func123 rfl (by kernel_rfl) rfl]
 simp
theorem Qfq (w h:Int) (v:Value) (xs:List Int) (n:Int) (hI:W7 H v xs) (h0:0≤n) (h1:n≤1048576) (h2:xs.length≤9223372036854775807) :
 Qh C frz 52 [.agg #[.int .i64 w,.int .i64 h,v],.int .i64 n] H=some (.int .i64 (if n<xs.length then -1 else n-xs.length),H):=by
 rw [Qb (fn:=Tryz.f52) Tryz.func52 rfl (by kernel_rfl) rfl]
 simp [Kc _ _ _ (hI.app _) h0 h1 h2,hI.one',hI.cells]
 refine Q7 _ ?_ ?_<;>intro h<;>simp [h]
 ·intro hh;omega
theorem Qg0 (w h:Int) (v:Value) (xs:List Int) (hI:W7 H v xs) (hb:xs.length≤1073741824) :
 Qh C frz 71 [.agg #[.int .i64 w,.int .i64 h,v]] H=some (.agg #[.int .i64 w,.int .i64 h,.slice (some ⟨H.length,0,some 0⟩) xs.length 0],H++[⟨xs.map (.int .i64),0,3⟩]):=by
 rw [Qb (fn:=Tryz.f71) Tryz.func71 rfl (by kernel_rfl) rfl]
 simp [Qdy,Fq _ _ (hI.app _) hb,hI.one',hI.cells]
theorem Qgq (w h w' h':Int):Qh C frz 147 [.agg #[.int .i64 w,.int .i64 h],.agg #[.int .i64 w',.int .i64 h']] H=some (.bool (decide (w=w'∧h=h')),H):=by
 rw [Qb (fn:=Tryz.f147) Tryz.func147 rfl (by kernel_rfl) rfl]
 simp
 refine Q7 _ ?_ ?_<;>intro h0<;>simp [h0]
 refine Q7 _ ?_ ?_<;>intro h0<;>simp [h0]
theorem Qez (w h w' h':Int) (a b:Value) (xs ys:List Int) (ha:W7 H a xs) (hb:W7 H b ys) (hl:xs.length≤1073741824) :
 Qh C frz 81 [.agg #[.int .i64 w,.int .i64 h,a],.agg #[.int .i64 w',.int .i64 h',b]] H=some (.bool (decide ((w=w'∧h=h')∧xs=ys)),H):=by
 rw [Qb (fn:=Tryz.f81) Tryz.func81 rfl (by kernel_rfl) rfl]
 simp [Qgq,ha.one',hb.one',ha.cells,hb.cells,-Bool.decide_and]
 refine Q7 _ ?_ ?_<;>intro h0<;>simp [h0,Ev _ _ _ _ (ha.app _) (hb.app _) hl]
 refine Q7 _ ?_ ?_<;>intro h0<;>simp [h0]
theorem kr:IntKind.i64.wrap 0=0:=by decide
theorem Qh2:Qh C frz 278 [.slice none 0 0,.int .i64 0] H=some (.slice none 0 0,H):=by
 rw [Qb (fn:=Tryz.f278) Tryz.func278 rfl (by kernel_rfl) rfl]
 simp [kr]
theorem Qkq (n:Int) (h0:0<n) (h1:n≤1073741824) :
 Qh C frz 278 [.slice none 0 0,.int .i64 n] H=some (.slice (some ⟨H.length,0,some 0⟩) 0 0,H++[⟨[],0,3⟩]):=by
 rw [Qb (fn:=Tryz.f278) Tryz.func278 rfl (by kernel_rfl) rfl]
 have e:IntKind.i64.wrap n=n:=Q0 (by omega) (by omega)
 simp [kr,e,h0]
 refine Q7 _ ?_ ?_<;>intro h2
 ·omega
 simp [h2,kr,e,h0]
 exact Ys h1 (Ys (by omega) rfl)
theorem Qfr (id:Nat) (x y:Value) (xs ys:List Int) (hr:H[id]? = some ⟨[x,y],0,24⟩) (hx:W7 H x xs) (hy:W7 H y ys) (hl:xs.length+ys.length≤1073741824) :
 Qh C frz 264 [.slice (some ⟨id,0,some 0⟩) 2 0] H=some (if xs++ys=[] then (.slice none 0 0,H) else (.slice (some ⟨H.length,0,some 0⟩) (xs++ys).length 0,H++[⟨(xs++ys).map (.int .i64),0,3⟩])):=by
 rw [Qb (fn:=Tryz.f264) Tryz.func264 rfl (by kernel_rfl) rfl]
 simp [VM.look,hr]
 have lk0:∀o,VM.look H ⟨id,o,some 0⟩=some ⟨[x,y],0,24⟩:=fun o=>by simp [VM.look,hr]
 have lk:∀L o,VM.look (H++L) ⟨id,o,some 0⟩=some ⟨[x,y],0,24⟩:=fun L o=>by
  simp [VM.look,List.getElem?_append_left (List.getElem?_eq_some_iff.1 hr).1,hr]
 have e1:IntKind.i64.wrap (xs.length:Int)=xs.length:=Q0 (by omega) (by omega)
 have e2:IntKind.i64.wrap ((xs.length:Int)+ys.length)=xs.length+ys.length:=Q0 (by omega) (by omega)
 have n1:¬(xs.length:Int)<0:=by omega
 have n2:¬(xs.length:Int)+ys.length<0:=by omega
 have wr1:IntKind.i64.wrap 1=1:=by decide
 have wr2:IntKind.i64.wrap 2=2:=by decide
 rw [Z4]
 simp [VM.look,hr,hx.len,hy.len,kr,wr1,wr2,e1,n1]
 rw [Us,Z4]
 simp [VM.look,hr,hx.len,hy.len,kr,wr1,wr2,e1,e2,n1,n2]
 rw [Us,Z4]
 simp [VM.look,hr,hx.len,hy.len,kr,wr1,wr2,e1,e2,n1,n2]
 by_cases h0:xs.length+ys.length=0
 ·obtain rfl:xs=[]:=List.length_eq_zero_iff.1 (by omega)
  obtain rfl:ys=[]:=List.length_eq_zero_iff.1 (by omega)
  simp [Qh2,lk0]
  rw [Z4]
  simp [lk0,hx.src,kr,wr1]
  rw [Us,Z4]
  simp [lk0,hy.src,kr,wr1,wr2]
  rw [Us,Z4]
  simp [lk0,kr,wr1,wr2]
 ·have hno:¬(xs=[]∧ys=[]):=fun ⟨a,b⟩=>h0 (by rw [a,b];rfl)
  simp [Qkq _ (show (0:Int)<xs.length+ys.length by omega) (by omega),hno,lk]
  rw [Z4]
  simp [lk,(hx.app _).src,kr,wr1]
  by_cases hx0:xs=[]
  ·have hy0:ys≠[]:=fun hh=>hno ⟨hx0,hh⟩
   have hyl:ys.length≤1073741824:=by omega
   simp [hx0]
   rw [Us,Z4]
   simp [lk,(hy.app _).src,kr,wr1,wr2,hy0,hyl]
   rw [Us,Z4]
   simp [lk,kr,wr1,wr2]
  ·have hxl:xs.length≤1073741824:=by omega
   simp [hx0,hxl]
   rw [Us,Z4]
   simp [lk,(hy.app _).src,kr,wr1,wr2]
   by_cases hy0:ys=[]
   ·simp [hy0]
    rw [Us,Z4]
    simp [lk,kr,wr1,wr2]
   ·simp [hy0,hl]
    rw [Us,Z4]
    simp [lk,kr,wr1,wr2]
theorem Ok {w h:Int} {b:List Int} {i:Nat} (h5:i<b.length) (hg:¬T8 w h b i):¬Zo w h b:=fun hh=>hg (hh.1 i h5)
theorem Ik {w h:Int} {b:List Int} {i:Nat} (hj:∀j<i,T8 w h b j) (hg:T8 w h b i):∀j<i+1,T8 w h b j:=fun j hh=>by
 by_cases hji:j<i
 ·exact hj j hji
 ·have:j=i:=by omega
  rw [this];exact hg
theorem Uq {w h:Int} {b:List Int} {i:Nat} (h5:i<b.length):T8 w h b i↔leads w h b[i]∧(0<i→b[i-1]<b[i]):=by
 unfold T8
 rw [Wh _ _ h5]
 refine and_congr Iff.rfl ⟨fun g p=>?_,fun g p=>?_⟩
 ·have:=g p;rwa [Wh _ _ (by omega)] at this
 ·rw [Wh _ _ (by omega)];exact g p
theorem Jp (w h:Int) (v:Value) (b:List Int) (hI:W7 H v b) (hl:b.length≤1073741824) :
 Qh C frz 193 [.agg #[.int .i64 w,.int .i64 h,v]] H=some (.bool (decide (Zo w h b)),H):=by
 rw [Qb (fn:=Tryz.f193) Tryz.func193 rfl (by kernel_rfl) rfl]
 simp [hI.one',hI.cells,hI.lenA,Jk]
 refine Q7 _ ?_ ?_<;>intro hg<;>simp [hg]
 ·refine Z2 (fun n t H'=>∃i:Nat,n=b.length-i∧i≤b.length∧t 1=.pointer (some ⟨H.length,0,some 0⟩)∧t 3=.int .i64 i∧
   H'=H++[⟨[.int .i64 w,.int .i64 h,v],0,42⟩]∧∀j<i,T8 w h b j) ?_ (n:=b.length) ⟨0,by simp⟩
  rintro n t H' ⟨i,rfl,hi,h1,h3,rfl,hj⟩ ih
  have next:=fun (t':Env) (e1:t' 1=.pointer (some ⟨H.length,0,some 0⟩)) (e2:t' 3=.int .i64 (i+1:Nat)) (e3:i<b.length) (e4:T8 w h b i)=>
   ih (b.length-(i+1)) t' _ ⟨i+1,rfl,by omega,e1,e2,rfl,Ik hj e4⟩ (by omega)
  simp [h1,h3,hI.lenA]
  refine Q7 _ ?_ ?_<;>intro h5
  ·simp [h1,h3,h5]
   rw [Qv (h:=by kernel_rfl)]
   simp [h1,h3,h5,hI.idxA,hI.loadA,Wh,Es]
   refine Xs _ _ ?_ ?_<;>intro hL<;>simp [h1,h3,h5,hL]
   ·refine Xs _ _ ?_ ?_<;>intro h0
    ·have e:IntKind.i64.wrap ((i:Int)-1)=((i-1:Nat):Int):=by rw [Q0 (by omega) (by omega)];omega
     have e':i-1<b.length:=by omega
     simp [h1,h3,h5,h0,hL,hI.idxA,hI.loadA,Wh,e,e']
     refine Q7 _ ?_ ?_<;>intro h6
     ·simp [h1,h3,h5,h0,hL,h6]
      refine Ok h5 ?_
      rw [Uq h5]
      exact fun hh=>absurd (hh.2 h0) (by omega)
     ·simp [h1,h3,h5,h0,hL,h6]
      refine next _ (by simp [h1]) ?_ h5 ((Uq h5).2 ⟨hL,fun _=>by omega⟩)
      simp;rw [Q0 (by omega) (by omega)]
    ·simp [h1,h3,h5,h0,hL]
     refine next _ (by simp [h1]) ?_ h5 ((Uq h5).2 ⟨hL,fun hh=>absurd hh h0⟩)
     simp;rw [Q0 (by omega) (by omega)]
   ·refine Ok h5 ?_
    rw [Uq h5]
    exact fun hh=>hL hh.1
  ·have:i=b.length:=by omega
   subst this
   simp [h1,h3]
   exact ⟨hj,hg⟩
 ·exact fun hh=>hg hh.2
theorem G9 {b:List Int} {c:Int} {i:Nat} (h:i<b.length) (h1:c∉b.take i) (h2:¬b[i]=c):c∉b.take (i+1):=by
 rw [List.take_succ_eq_append_getElem h]
 simp only [List.mem_append,List.mem_singleton,not_or]
 exact ⟨h1,fun hh=>h2 hh.symm⟩
def place (b:List Int) (c:Int):Int:=if c∈b then b.idxOf c else -1
theorem ww (b:List Int) (c:Int) : -1≤place b c∧place b c<b.length∧(0≤place b c↔c∈b):=by
 unfold place
 split
 ·rename_i h
  have:=List.idxOf_lt_length_iff.2 h
  refine ⟨by omega,by omega,?_⟩
  simp [h]
 ·rename_i h
  refine ⟨by omega,by omega,?_⟩
  simp [h]
theorem Qep {b:List Int} {c:Int} {i:Nat} (h:i<b.length) (h1:c∉b.take i) (h2:b[i]=c):place b c=i:=by
 have hm:c∈b:=h2▸List.getElem_mem h
 unfold place
 rw [if_pos hm]
 have e:b=b.take i++b.drop i:=(List.take_append_drop i b).symm
 have e2:b.drop i=c::b.drop (i+1):=by rw [List.drop_eq_getElem_cons h,h2]
 rw [e,List.idxOf_append,if_neg h1,e2,List.idxOf_cons_self]
 simp;omega
theorem Qfp (v:Value) (b:List Int) (c:Int) (hI:W7 H v b) (hl:b.length≤1073741824) :
 Qh C frz 216 [v,.int .i64 c] H=some (.bool (decide (c∈b)),H):=by
 rw [Qb (fn:=Tryz.f216) Tryz.func216 rfl (by kernel_rfl) rfl]
 simp [hI.len]
 refine Z2 (fun n t H'=>∃i:Nat,n=b.length-i∧i≤b.length∧t 0=v∧t 1=.int .i64 c∧t 5=.int .i64 i∧H'=H∧c∉b.take i) ?_ (n:=b.length) ⟨0,by simp⟩
 rintro n t H' ⟨i,rfl,hi,h1,h2,h3,rfl,hj⟩ ih
 simp [h1,h2,h3,hI.len]
 refine Q7 _ ?_ ?_<;>intro h5
 ·simp [h1,h2,h3,h5,hI.idx,hI.load,Wh]
  refine Q7 _ ?_ ?_<;>intro h6<;>simp [h1,h2,h3,h6]
  ·rw [← h6];exact List.getElem_mem h5
  ·refine ih (b.length-(i+1)) _ _ ⟨i+1,rfl,by omega,by simp [h1],by simp [h2],?_,rfl,G9 h5 hj h6⟩ (by omega)
   simp;rw [Q0 (by omega) (by omega)]
 ·have:i=b.length:=by omega
  subst this
  simp [h1,h2,h3]
  rwa [List.take_length] at hj
theorem qs (v:Value) (b:List Int) (c:Int) (hI:W7 H v b) (hl:b.length≤1073741824) :
 Qh C frz 247 [v,.int .i64 c] H=some (.int .i64 (place b c),H):=by
 rw [Qb (fn:=Tryz.f247) Tryz.func247 rfl (by kernel_rfl) rfl]
 simp [hI.len]
 refine Z2 (fun n t H'=>∃i:Nat,n=b.length-i∧i≤b.length∧t 0=v∧t 1=.int .i64 c∧t 6=v∧t 7=.int .i64 b.length∧t 8=.int .i64 i∧H'=H∧c∉b.take i) ?_ (n:=b.length) ⟨0,by simp⟩
 rintro n t H' ⟨i,rfl,hi,h0,h1,h2,h3,h4,rfl,hj⟩ ih
 simp [h0,h1,h2,h3,h4,hI.len]
 refine Q7 _ ?_ ?_<;>intro h5
 ·simp [h0,h1,h2,h3,h4,h5,hI.idx,hI.load,Wh]
  refine Q7 _ ?_ ?_<;>intro h6<;>simp [h0,h1,h2,h3,h4,h6]
  ·rw [Qep (c:=b[i]) h5 (by first|exact hj|(rw [h6];exact hj)|(rw [← h6];exact hj)) rfl]
  ·refine ih (b.length-(i+1)) _ _ ⟨i+1,rfl,by omega,by simp [h0],by simp [h1],by simp [h2],by simp [h3],?_,rfl,G9 h5 hj (by omega)⟩ (by omega)
   simp;rw [Q0 (by omega) (by omega)]
 ·have:i=b.length:=by omega
  subst this
  simp [h0,h1,h2,h3]
  rw [List.take_length] at hj
  rw [place,if_neg hj]
theorem Ob (v:Value) (b:List Int) (c:Int) (hI:W7 H v b) (hl:b.length≤1073741824) :
 Qh C frz 227 [v,.int .i64 c] H=some (.bool (decide (c∈b)),H):=by
 rw [Qb (fn:=Tryz.f227) Tryz.func227 rfl (by kernel_rfl) rfl]
 simp [qs _ _ _ hI hl,ww]
theorem O2 (w h:Int) (v:Value) (b:List Int) (c:Int) (hI:W7 H v b) (hl:b.length≤1073741824) :
 Qh C frz 194 [.agg #[.int .i64 w,.int .i64 h,v],.int .i64 c] H=some (.bool (decide (has w h b c)),H):=by
 rw [Qb (fn:=Tryz.f194) Tryz.func194 rfl (by kernel_rfl) rfl]
 simp [hI.one',hI.cells,Es]
 refine Xs _ _ ?_ ?_<;>intro h1<;>simp [h1,Qfp _ _ _ (hI.app _) hl,has,-Bool.decide_and]
theorem Qb1 (w h:Int) (v:Value) (b:List Int) (r:Int) (hI:W7 H v b) (hl:b.length≤1073741824) :
 Qh C frz 237 [.agg #[.int .i64 w,.int .i64 h,v],.int .i64 r] H=some (.bool (decide (Zo w h b∧Y6 w h r)),H):=by
 rw [Qb (fn:=Tryz.f237) Tryz.func237 rfl (by kernel_rfl) rfl]
 simp [hI.one',hI.cells,Jp _ _ _ _ (hI.app _) hl]
 refine Xs _ _ ?_ ?_<;>intro h1<;>simp [h1,Uy,-Bool.decide_and]
theorem Kg (w h:Int) (v:Value) (b:List Int) (c:Int) (hI:W7 H v b) (h0:leads w h c) :
 Qh C frz 223 [.agg #[.int .i64 w,.int .i64 h,v],.int .i64 c] H=some (.int .i64 (next w h (c/4) (c%4)),H):=by
 rw [Qb (fn:=Tryz.f223) Tryz.func223 rfl (by kernel_rfl) rfl]
 obtain ⟨e1,e2⟩:=O9 h0.1
 simp [hI.one',hI.cells,e1,e2,Lj]
theorem Pm (w h:Int) (v:Value) (b:List Int) (hI:W7 H v b) (hl:b.length≤1073741824) :
 Qh C frz 198 [.agg #[.int .i64 w,.int .i64 h,v]] H=some (.bool (decide (Zo w h b)),H):=by
 rw [Qb (fn:=Tryz.f198) Tryz.func198 rfl (by kernel_rfl) rfl]
 simp [hI.one',hI.cells,hI.lenA]
 refine Z2 (fun n t H'=>∃i:Nat,n=b.length-i∧i≤b.length∧t 1=.pointer (some ⟨H.length,0,some 0⟩)∧t 6=v∧t 7=.int .i64 b.length∧t 8=.int .i64 i∧
  H'=H++[⟨[.int .i64 w,.int .i64 h,v],0,42⟩]∧∀j<i,T8 w h b j) ?_ (n:=b.length) ⟨0,by simp⟩
 rintro n t H' ⟨i,rfl,hi,h1,h2,h3,h4,rfl,hj⟩ ih
 have next:=fun (t':Env) (e1:t' 1=.pointer (some ⟨H.length,0,some 0⟩)) (e2:t' 6=v) (e3:t' 7=.int .i64 b.length) (e4:t' 8=.int .i64 (i+1:Nat)) (e5:i<b.length) (e6:T8 w h b i)=>
  ih (b.length-(i+1)) t' _ ⟨i+1,rfl,by omega,e1,e2,e3,e4,rfl,Ik hj e6⟩ (by omega)
 simp [h1,h2,h3,h4]
 refine Q7 _ ?_ ?_<;>intro h5
 ·simp [h1,h2,h3,h4,h5,hI.idxA,hI.loadA,Wh,A2]
  refine Xs _ _ ?_ ?_<;>intro hL<;>simp [h1,h2,h3,h4,h5,hL]
  ·refine Xs _ _ ?_ ?_<;>intro h0
   ·have e:IntKind.i64.wrap ((i:Int)-1)=((i-1:Nat):Int):=by rw [Q0 (by omega) (by omega)];omega
    have e':i-1<b.length:=by omega
    simp [h1,h2,h3,h4,h5,h0,hL,hI.idxA,hI.loadA,Wh,e,e']
    refine Q7 _ ?_ ?_<;>intro h6
    ·simp [h1,h2,h3,h4,h5,h0,hL,h6]
     refine Ok h5 ?_
     rw [Uq h5]
     exact fun hh=>absurd (hh.2 h0) (by omega)
    ·simp [h1,h2,h3,h4,h5,h0,hL,h6]
     refine next _ (by simp [h1]) (by simp [h2]) (by simp [h3]) ?_ h5 ((Uq h5).2 ⟨hL,fun _=>by omega⟩)
     simp;rw [Q0 (by omega) (by omega)]
   ·simp [h1,h2,h3,h4,h5,h0,hL]
    refine next _ (by simp [h1]) (by simp [h2]) (by simp [h3]) ?_ h5 ((Uq h5).2 ⟨hL,fun hh=>absurd hh h0⟩)
    simp;rw [Q0 (by omega) (by omega)]
  ·refine Ok h5 ?_
   rw [Uq h5]
   exact fun hh=>hL hh.1
 ·have:i=b.length:=by omega
  subst this
  simp [h1,h2,h3,h4,Kj]
  exact ⟨fun hg=>⟨hj,hg⟩,fun hh=>hh.2⟩
theorem jt (w h:Int) (v:Value) (b:List Int) (r:Int) (hI:W7 H v b) (hl:b.length≤1073741824) :
 Qh C frz 265 [.agg #[.int .i64 w,.int .i64 h,v],.int .i64 r] H=some (.bool (decide (Zo w h b∧Y6 w h r)),H):=by
 rw [Qb (fn:=Tryz.f265) Tryz.func265 rfl (by kernel_rfl) rfl]
 simp [hI.one',hI.cells,Pm _ _ _ _ (hI.app _) hl]
 refine Xs _ _ ?_ ?_<;>intro h1<;>simp [h1,Zm,-Bool.decide_and]
theorem Si (w h:Int) (v:Value) (b:List Int) (c:Int) (hI:W7 H v b) (hl:b.length≤1073741824) :
 Qh C frz 208 [.agg #[.int .i64 w,.int .i64 h,v],.int .i64 c] H=some (.bool (decide (Zo w h b∧has w h b c)),H):=by
 rw [Qb (fn:=Tryz.f208) Tryz.func208 rfl (by kernel_rfl) rfl]
 simp [hI.one',hI.cells,Pm _ _ _ _ (hI.app _) hl]
 refine Xs _ _ ?_ ?_<;>intro h1<;>simp [h1,A2,-Bool.decide_and]
 refine Xs _ _ ?_ ?_<;>intro h2<;>simp [h2,has,Ob _ _ _ (hI.app _) hl,-Bool.decide_and]
end Go.Proofs.YtlhaeingdonaeaaGreat.V
set_option linter.all false
namespace Go.Proofs.YtlhaeingdonaeaaGreat.V
open Go Go.VM Go.Proofs
set_option maxRecDepth 10000
def Xm (w h:Int) (T:List Int) (a to:Int):Int:=rd T (a*cnt w h+to)
def Dj (w h:Int) (b T:List Int) (a to:Int):Prop:=Xa 0 (Xm w h T a to) 3∧has w h b (4*a+Xm w h T a to)
instance (w h:Int) (b T:List Int) (a to:Int):Decidable (Dj w h b T a to):=inferInstanceAs (Decidable (_∧_))
def Rs (w h:Int) (b T:List Int) (to:Int):Nat→Int→List Int→List Int
 | 0,a,out=>if Xm w h T a to=4 then (if a=to then out else []) else []
 | f+1,a,out=>if Xm w h T a to=4 then (if a=to then out else []) else
  if Dj w h b T a to then Rs w h b T to f (next w h a (Xm w h T a to)) (out++[4*a+Xm w h T a to]) else []
def walk (w h:Int) (b T:List Int) (a to:Int):List Int:=Rs w h b T to (cnt w h).toNat a []
def R0 (w h:Int) (b T:List Int):Prop:=Zo w h b∧(T.length:Int)=cnt w h*cnt w h
instance (w h:Int) (b T:List Int):Decidable (R0 w h b T):=inferInstanceAs (Decidable (_∧_))
def U3 (w h:Int) (b T:List Int):Prop:=R0 w h b T∧∀a,a<(cnt w h).toNat→∀c,c<(cnt w h).toNat→(a=c→Xm w h T a a=4)∧(a≠c→walk w h b T a c≠[])
instance (w h:Int) (b T:List Int):Decidable (U3 w h b T):=inferInstanceAs (Decidable (_∧_))
theorem P9 {w h x y:Int} (hx:0≤nodeAt w h x y):Y6 w h (nodeAt w h x y):=by
 refine ⟨hx,?_⟩
 unfold nodeAt at hx ⊢
 split
 ·rename_i h1
  obtain ⟨h1,h2,h3⟩:=h1
  have hm:=Vm h1
  have c2:y*w≤(h-1)*w:=Int.mul_le_mul_of_nonneg_right (by omega) (by have:=h1.1.1;omega)
  rw [Int.sub_mul,Int.mul_comm h w] at c2
  rw [cnt,if_pos h1]
  omega
 ·rename_i h1;rw [if_neg h1] at hx;omega
theorem jd {w h a p:Int} (hx:0≤next w h a p):Y6 w h (next w h a p):=by
 unfold next at hx ⊢
 by_cases h1:Y6 w h a
 ·rw [if_pos h1] at hx ⊢
  by_cases p0:p=0
  ·rw [if_pos p0] at hx ⊢;exact P9 hx
  rw [if_neg p0] at hx ⊢
  by_cases p1:p=1
  ·rw [if_pos p1] at hx ⊢;exact P9 hx
  rw [if_neg p1] at hx ⊢
  by_cases p2:p=2
  ·rw [if_pos p2] at hx ⊢;exact P9 hx
  rw [if_neg p2] at hx ⊢
  by_cases p3:p=3
  ·rw [if_pos p3] at hx ⊢;exact P9 hx
  rw [if_neg p3] at hx ⊢
  by_cases p4:p=4
  ·rw [if_pos p4] at hx ⊢;exact h1
  rw [if_neg p4] at hx;omega
 ·rw [if_neg h1] at hx;omega
theorem N4 {w h a p:Int} {b:List Int} (h0:Xa 0 p 3) (h1:has w h b (4*a+p)):(4*a+p)/4=a∧(4*a+p)%4=p∧Y6 w h (next w h a p):=by
 obtain ⟨h2,h3⟩:=h0
 have e1:(4*a+p)/4=a:=by omega
 have e2:(4*a+p)%4=p:=by omega
 refine ⟨e1,e2,jd ?_⟩
 have:=h1.1.2
 rwa [e1,e2] at this
theorem O1 {w h a to:Int} (h1:Y6 w h a) (h2:Y6 w h to):0≤a*cnt w h+to∧a*cnt w h+to<cnt w h*cnt w h∧a*cnt w h≤256∧0≤a*cnt w h:=by
 have hc:=Qz w h
 obtain ⟨a1,a2⟩:=h1
 obtain ⟨b1,b2⟩:=h2
 have c1:0*0≤a*cnt w h:=Int.mul_le_mul a1 hc.1 (by omega) (by omega)
 have c2:a*cnt w h≤(cnt w h-1)*cnt w h:=Int.mul_le_mul_of_nonneg_right (by omega) hc.1
 rw [Int.sub_mul] at c2
 have c3:cnt w h*cnt w h≤16*16:=Int.mul_le_mul hc.2 hc.2 hc.1 (by omega)
 omega
end Go.Proofs.YtlhaeingdonaeaaGreat.V
set_option linter.all false
namespace Go.Proofs.YtlhaeingdonaeaaGreat.V
open Go Go.VM
theorem Oo {s:List Int} {j:Nat} (h:j<s.length):rd s (j:Int)=s[j]:=by simp [rd,List.getD_eq_getElem?_getD,h]
theorem Jj {s:List Int} {k:Int} (h0:0≤k) (h1:k<s.length):rd s k∈s:=by
 obtain ⟨i,rfl⟩:=Int.eq_ofNat_of_zero_le h0
 rw [Oo (by omega)];exact List.getElem_mem _
theorem Dn (w h:Int) (b:List Int):Zo w h b↔wi w h∧(∀c∈b,leads w h c)∧b.Pairwise (· < ·):=by
 have e:∀j,j<b.length→b.getD j 0=rd b (j:Int):=fun j _=>by simp [rd]
 constructor
 ·rintro ⟨h1,h2⟩
  refine ⟨h2,fun c hc=>?_,?_⟩
  ·obtain ⟨j,hj,rfl⟩:=List.getElem_of_mem hc
   have:=(h1 j hj).1
   rwa [Wh _ _ hj] at this
  ·rw [List.pairwise_iff_getElem]
   intro i j hi hj hij
   induction j with
   | zero=>omega
   | succ j ih=>
    have:=(h1 (j+1) hj).2 (by omega)
    rw [Wh _ _ hj,Nat.add_sub_cancel,Wh _ _ (by omega)] at this
    by_cases h3:i=j
    ·subst h3;exact this
    ·exact Int.lt_trans (ih (by omega) (by omega)) this
 ·rintro ⟨h1,h2,h3⟩
  refine ⟨fun j hj=>⟨by rw [Wh _ _ hj];exact h2 _ (List.getElem_mem hj),fun h0=>?_⟩,h1⟩
  rw [Wh _ _ hj,Wh _ _ (by omega)]
  exact List.pairwise_iff_getElem.1 h3 _ _ _ _ (by omega)
def Gq (w h c:Int):Int:=next w h (c/4) (c%4)
def In (w h c:Int):Int:=4*Gq w h c+Ml (c%4)
def link (w h:Int) (b:List Int) (c:Int):Prop:=has w h b c∧has w h b (In w h c)
instance (w h:Int) (b:List Int) (c:Int):Decidable (link w h b c):=inferInstanceAs (Decidable (_∧_))
theorem gq {n:Nat}:∀{b:List Int},b.Pairwise (· < ·)→(∀c∈b,0≤c∧c<(n:Int))→b.length≤n:=by
 intro b hb hc
 have key:∀(b:List Int) (lo:Int),b.Pairwise (· < ·)→(∀c∈b,lo≤c∧c<(n:Int))→0≤lo→(b.length:Int)≤max 0 (n-lo):=by
  intro b
  induction b with
  | nil=>intro lo _ _ _;simp;omega
  | cons a l ih=>
   intro lo hp hm h0
   have h1:=hm a (by simp)
   have h2:=ih (a+1) (List.pairwise_cons.1 hp).2 (fun c hc=>⟨by have:=(List.pairwise_cons.1 hp).1 c hc;omega,(hm c (by simp [hc])).2⟩) (by omega)
   simp;omega
 have:=key b 0 hb (fun c h=>⟨(hc c h).1,(hc c h).2⟩) (by omega)
 omega
def neg (s:List Int):Nat:=s.countP (· < 0)
theorem Jd {s:List Int} {k x v:Int} (h0:0≤k) (h1:k<s.length) (hx:0≤x):rd (s.set k.toNat v) x=if x=k then v else rd s x:=by
 obtain ⟨i,rfl⟩:=Int.eq_ofNat_of_zero_le h0
 obtain ⟨j,rfl⟩:=Int.eq_ofNat_of_zero_le hx
 simp only [Int.toNat_natCast]
 by_cases hj:j<s.length
 ·rw [Oo (by simpa using hj),Oo hj,List.getElem_set]
  by_cases e:i=j
  ·subst e;simp
  ·rw [if_neg e,if_neg (by omega)]
 ·rw [if_neg (by omega)]
  simp [rd,hj]
theorem Qdm {s:List Int} {x:Int} (h0:0≤x) (h:rd s x<0):x<s.length:=by
 obtain ⟨j,rfl⟩:=Int.eq_ofNat_of_zero_le h0
 by_cases hj:j<s.length
 ·omega
 ·simp [rd,hj] at h
theorem Qbe {s:List Int} {k v:Int} (h0:0≤k) (h1:k<s.length) (h:rd s k<0) (hv:0≤v):neg (s.set k.toNat v)+1=neg s:=by
 obtain ⟨i,rfl⟩:=Int.eq_ofNat_of_zero_le h0
 have hi:i<s.length:=by omega
 rw [Oo hi] at h
 unfold neg
 rw [Int.toNat_natCast,List.countP_set hi]
 have:0<s.countP (· < 0):=List.countP_pos_iff.2 ⟨_,List.getElem_mem hi,by simpa using h⟩
 rw [if_pos (by simpa using h),if_neg (by simp;omega)]
 omega
def Po (w h:Int) (b:List Int) (a d:Int) (x:List Int×List Int) (p:Nat):List Int×List Int:=
 if link w h b (4*a+p)∧rd x.1 (next w h a p)<0 then (x.1.set (next w h a p).toNat d,x.2++[next w h a p]) else x
def Ge (w h:Int) (b:List Int) (a d:Int) (x:List Int×List Int):List Int×List Int:=(List.range 4).foldl (Po w h b a d) x
theorem Za {w h:Int} {b:List Int} {a:Int} {p:Nat} (hp:p<4) (h1:link w h b (4*a+p)):Y6 w h a∧Y6 w h (next w h a p)∧Gq w h (4*a+p)=next w h a p:=by
 obtain ⟨⟨⟨h2,h3⟩,_⟩,_⟩:=h1
 have e1:(4*a+(p:Int))/4=a:=by omega
 have e2:(4*a+(p:Int))%4=p:=by omega
 unfold Gq
 rw [e1,e2] at h3 ⊢
 exact ⟨⟨by omega,by omega⟩,jd h3,rfl⟩
structure BExt (w h:Int) (d:Int) (x y:List Int×List Int):Prop where
 len:y.1.length=x.1.length
 old:∀v,0≤v→0≤rd x.1 v→rd y.1 v=rd x.1 v
 new:∀v∈y.2,v∈x.2∨(Y6 w h v∧rd y.1 v=d)
 sum:neg y.1+y.2.length=neg x.1+x.2.length
 pre:∀v∈x.2,v∈y.2
 low:(∀v∈x.1,-1≤v∧v≤d)→∀v∈y.1,-1≤v∧v≤d
theorem BExt.rfl' {w h d:Int} {x:List Int×List Int}:BExt w h d x x:=⟨rfl,fun _ _ _=>rfl,fun _ h=>.inl h,rfl,fun _ h=>h,fun h=>h⟩
theorem BExt.trans {w h d:Int} {x y z:List Int×List Int} (hd:0≤d) (a:BExt w h d x y) (b:BExt w h d y z):BExt w h d x z where
 len:=b.len.trans a.len
 old v h0 h1:=by
  have e:=a.old v h0 h1
  rw [b.old v h0 (by omega),e]
 new v hv:=by
  rcases b.new v hv with h1|h1
  ·rcases a.new v h1 with h2|⟨h2,h3⟩
   ·exact .inl h2
   ·exact .inr ⟨h2,by rw [b.old v h2.1 (by omega),h3]⟩
  ·exact .inr h1
 sum:=b.sum.trans a.sum
 pre v h:=b.pre v (a.pre v h)
 low h:=b.low (a.low h)
theorem Gm {w h:Int} {b:List Int} {a d:Int} {x:List Int×List Int} {p:Nat} (hp:p<4) (hd:0≤d):BExt w h d x (Po w h b a d x p):=by
 unfold Po
 by_cases hc:link w h b (4*a+p)∧rd x.1 (next w h a p)<0
 ·rw [if_pos hc]
  obtain ⟨h1,h2,h3⟩:=Za hp hc.1
  have h4:=Qdm h2.1 hc.2
  have:=Qbe h2.1 h4 hc.2 hd
  refine ⟨by simp,fun v h0 h5=>?_,fun v hv=>?_,by simp;omega,fun v hv=>by simp [hv],fun hl v hv=>?_⟩
  ·simp only
   rw [Jd h2.1 h4 h0,if_neg (by intro e;subst e;omega)]
  ·simp only [List.mem_append,List.mem_singleton] at hv
   rcases hv with hv|rfl
   ·exact .inl hv
   ·exact .inr ⟨h2,by simp only;rw [Jd h2.1 h4 h2.1,if_pos rfl]⟩
  ·rcases List.mem_or_eq_of_mem_set hv with h6|rfl
   ·exact hl v h6
   ·omega
 ·rw [if_neg hc];exact BExt.rfl'
theorem Ck {w h:Int} {b:List Int} {a d:Int} (hd:0≤d):∀(l:List Nat) (x:List Int×List Int),(∀p∈l,p<4)→BExt w h d x (l.foldl (Po w h b a d) x)
 | [],x,_=>BExt.rfl'
 | p::l,x,hp=>(Gm (hp p (by simp)) hd).trans hd (Ck hd l _ (fun q hq=>hp q (by simp [hq])))
theorem Gl {w h:Int} {b:List Int} {a d:Int} (hd:0≤d) (x:List Int×List Int):BExt w h d x (Ge w h b a d x):=Ck hd _ _ (by simp)
theorem Qhi {w h:Int} {b:List Int} {a d:Int} (s q q':List Int) (p:Nat):Po w h b a d (s,q++q') p=((Po w h b a d (s,q') p).1,q++(Po w h b a d (s,q') p).2):=by
 unfold Po
 simp only
 split<;>simp
theorem B0 {w h:Int} {b:List Int} {a d:Int} (q:List Int):∀(l:List Nat) (s q':List Int),l.foldl (Po w h b a d) (s,q++q')=((l.foldl (Po w h b a d) (s,q')).1,q++(l.foldl (Po w h b a d) (s,q')).2)
 | [],s,q'=>rfl
 | p::l,s,q'=>by
  rw [List.foldl_cons,List.foldl_cons,Qhi]
  exact B0 q l _ _
theorem Qba {w h:Int} {b:List Int} {a d:Int} (q s q':List Int):Ge w h b a d (s,q++q')=((Ge w h b a d (s,q')).1,q++(Ge w h b a d (s,q')).2):=B0 q _ _ _
inductive Run (w h:Int) (b:List Int):List Int→List Int→List Int→Int→List Int→Prop
 | done (s:List Int) (d:Int):Run w h b s [] [] d s
 | level {s:List Int} {x:Int} {nx:List Int} {d:Int} {r:List Int}:Run w h b s (x::nx) [] (d+1) r→Run w h b s [] (x::nx) d r
 | node {s:List Int} {a:Int} {rest nx:List Int} {d:Int} {r:List Int}:Run w h b (Ge w h b a d (s,nx)).1 rest (Ge w h b a d (s,nx)).2 d r→Run w h b s (a::rest) nx d r
structure Inv (w h:Int) (s rest nx:List Int) (d:Int):Prop where
 len:(s.length:Int)=cnt w h
 fr:∀v∈rest,Y6 w h v∧rd s v=d-1
 nw:∀v∈nx,Y6 w h v∧rd s v=d
 one:1≤d
 sum:d+neg s+nx.length≤cnt w h
 low:∀v∈s,-1≤v∧v≤d
theorem Inv.level {w h:Int} {s nx:List Int} {x d:Int} (i:Inv w h s [] (x::nx) d):Inv w h s (x::nx) [] (d+1):=
 ⟨i.len,fun v hv=>⟨(i.nw v hv).1,by have:=(i.nw v hv).2;omega⟩,by simp,by have:=i.one;omega,by have:=i.sum;simp at this ⊢;omega,fun v hv=>by have:=i.low v hv;omega⟩
theorem Inv.node {w h:Int} {b s rest nx:List Int} {a d:Int} (i:Inv w h s (a::rest) nx d):Inv w h (Ge w h b a d (s,nx)).1 rest (Ge w h b a d (s,nx)).2 d:=by
 have h1:=i.one
 have e:=Gl (w:=w) (h:=h) (b:=b) (a:=a) (d:=d) (by omega) (s,nx)
 refine ⟨by rw [e.len];exact i.len,fun v hv=>?_,fun v hv=>?_,h1,?_,e.low i.low⟩
 ·obtain ⟨h2,h3⟩:=i.fr v (by simp [hv])
  exact ⟨h2,by rw [e.old v h2.1 (by simp only;omega)];exact h3⟩
 ·rcases e.new v hv with h2|h2
  ·obtain ⟨h3,h4⟩:=i.nw v h2
   exact ⟨h3,by rw [e.old v h3.1 (by simp only;omega)];exact h4⟩
  ·exact h2
 ·have:=e.sum;have:=i.sum;simp only at *;omega
theorem Qkf {w h:Int} {b:List Int}:∀(m:Nat) (s rest nx:List Int) (d:Int),3*neg s+2*nx.length+rest.length≤m→Inv w h s rest nx d→∃r,Run w h b s rest nx d r:=by
 intro m
 induction m with
 | zero=>
  intro s rest nx d hm i
  cases rest with
  | nil=>cases nx with
   | nil=>exact ⟨s,.done s d⟩
   | cons x nx=>simp at hm
  | cons a rest=>simp at hm
 | succ m ih=>
  intro s rest nx d hm i
  cases rest with
  | nil=>cases nx with
   | nil=>exact ⟨s,.done s d⟩
   | cons x nx=>
    obtain ⟨r,hr⟩:=ih s (x::nx) [] (d+1) (by simp at hm ⊢;omega) i.level
    exact ⟨r,.level hr⟩
  | cons a rest=>
   have e:=(Gl (w:=w) (h:=h) (b:=b) (a:=a) (d:=d) (by have:=i.one;omega) (s,nx)).sum
   have e2:=(Gl (w:=w) (h:=h) (b:=b) (a:=a) (d:=d) (by have:=i.one;omega) (s,nx))
   have h1:nx.length≤(Ge w h b a d (s,nx)).2.length:=by
    have:=Qba (w:=w) (h:=h) (b:=b) (a:=a) (d:=d) nx s []
    rw [List.append_nil] at this;rw [this];simp
   simp only at e
   obtain ⟨r,hr⟩:=ih (Ge w h b a d (s,nx)).1 rest (Ge w h b a d (s,nx)).2 d (by simp at hm;omega) i.node
   exact ⟨r,.node hr⟩
def start (w h root:Int):List Int:=(List.replicate (cnt w h).toNat (-1)).set root.toNat 0
theorem Ti {w h root:Int} (hr:Y6 w h root):Inv w h (start w h root) [root] [] 1∧((neg (start w h root):Nat):Int)+1=cnt w h:=by
 have hc:=Qz w h
 have hl:root<((List.replicate (cnt w h).toNat (-1:Int)).length:Int):=by have:=hr.2;simp;omega
 have h0:rd (List.replicate (cnt w h).toNat (-1:Int)) root=-1:=by
  have:=Jj hr.1 hl
  exact List.eq_of_mem_replicate this
 have h1:=Qbe (v:=0) hr.1 hl (by omega) (by omega)
 have h2:neg (List.replicate (cnt w h).toNat (-1:Int))=(cnt w h).toNat:=by unfold neg;simp [List.countP_replicate]
 rw [h2] at h1
 have h3:((neg (start w h root):Nat):Int)+1=cnt w h:=by unfold start;omega
 refine ⟨⟨by unfold start;simp;omega,fun v hv=>?_,by simp,by omega,by simp;omega,fun v hv=>?_⟩,h3⟩
 ·simp only [List.mem_singleton] at hv
  subst hv
  refine ⟨hr,?_⟩
  unfold start;rw [Jd hr.1 hl hr.1,if_pos rfl];omega
 ·rcases List.mem_or_eq_of_mem_set hv with h6|rfl
  ·have:=List.eq_of_mem_replicate h6;omega
  ·omega
theorem Run.inv {w h:Int} {b s rest nx:List Int} {d:Int} {r:List Int} (R:Run w h b s rest nx d r):Inv w h s rest nx d→∃d',Inv w h r [] [] d':=by
 induction R with
 | done s d=>exact fun i=>⟨d,i⟩
 | level _ ih=>exact fun i=>ih i.level
 | node _ ih=>exact fun i=>ih i.node
def Zv (w h:Int) (b:List Int) (root:Int):Prop:=Zo w h b∧Y6 w h root
instance (w h:Int) (b:List Int) (root:Int):Decidable (Zv w h b root):=inferInstanceAs (Decidable (_∧_))
theorem Bn {w h:Int} (b:List Int) {root:Int} (hr:Y6 w h root):∃r,Run w h b (start w h root) [root] [] 1 r:=Qkf _ _ _ _ _ (Nat.le_refl _) (Ti hr).1
noncomputable def Wg (w h:Int) (b:List Int) (root:Int):List Int:=if H:Zv w h b root then Classical.choose (Bn b H.2) else []
theorem Rf {w h:Int} {b:List Int} {root:Int} (H:Zv w h b root):Run w h b (start w h root) [root] [] 1 (Wg w h b root):=by
 unfold Wg;rw [dif_pos H];exact Classical.choose_spec (Bn b H.2)
theorem Vn {w h:Int} {b:List Int} {root:Int} (H:¬Zv w h b root):Wg w h b root=[]:=dif_neg H
theorem Zh {w h:Int} {b:List Int} {root:Int} (H:Zv w h b root):(((Wg w h b root).length:Nat):Int)=cnt w h∧∀v∈Wg w h b root,-1≤v∧v≤16:=by
 obtain ⟨d,i⟩:=(Rf H).inv (Ti H.2).1
 have hc:=Qz w h
 refine ⟨i.len,fun v hv=>?_⟩
 have:=i.low v hv;have:=i.sum;omega
theorem U9 (w h:Int) (b:List Int) (root:Int):(Wg w h b root).length≤16:=by
 have hc:=Qz w h
 by_cases H:Zv w h b root
 ·have:=(Zh H).1;omega
 ·rw [Vn H];simp
theorem Dl {w h:Int} {b:List Int} {root:Int} {v:Int} (hv:v∈Wg w h b root) : -1≤v∧v≤16:=by
 by_cases H:Zv w h b root
 ·exact (Zh H).2 v hv
 ·rw [Vn H] at hv;simp at hv
theorem A9 {w h:Int} (h1:wi w h):Y6 w h 0:=by
 have:=Vm h1
 refine ⟨by omega,?_⟩
 unfold cnt;rw [if_pos h1];omega
def conn (w h:Int) (b:List Int):Prop:=Zo w h b∧-1∉Wg w h b 0
noncomputable instance (w h:Int) (b:List Int):Decidable (conn w h b):=inferInstanceAs (Decidable (_∧_))
noncomputable def V7 (w h:Int) (b:List Int) (root:Int):Int:=(Wg w h b root).foldl max (-1)
noncomputable def Uj (w h:Int) (b:List Int) (best:Int) (root:Nat):Int:=if V7 w h b (root:Int)<V7 w h b best then (root:Int) else best
noncomputable def Xn (w h:Int) (b:List Int):Int:=if conn w h b then (List.range (cnt w h).toNat).foldl (Uj w h b) 0 else -1
theorem Aj {w h:Int} {b:List Int} {best:Int} {root:Nat} (h0:0≤best):0≤Uj w h b best root:=by
 unfold Uj;split<;>omega
def Yq (w h:Int) (b d:List Int) (i:Int) (p:Nat):Prop:=link w h b (4*i+p)∧rd d (next w h i p)=rd d i-1
instance (w h:Int) (b d:List Int) (i:Int) (p:Nat):Decidable (Yq w h b d i p):=inferInstanceAs (Decidable (_∧_))
def K9 (w h:Int) (b d:List Int) (i:Int):Int:=
 if rd d i>0 then
  (if Yq w h b d i 0 then next w h i (0:Nat) else if Yq w h b d i 1 then next w h i (1:Nat) else if Yq w h b d i 2 then next w h i (2:Nat) else if Yq w h b d i 3 then next w h i (3:Nat) else -1)
 else -1
def Qag (w h:Int) (b d:List Int):List Int:=(List.range d.length).map fun i:Nat=>K9 w h b d (i:Int)
noncomputable def Wb (w h:Int) (b:List Int) (root:Int):List Int:=Qag w h b (Wg w h b root)
theorem Sy (w h:Int) (b:List Int) (root:Int):(Wb w h b root).length=(Wg w h b root).length:=by simp [Wb,Qag]
def Hi (d:Int) (x:List Int×List Int):Prop:=∀v∈x.1,v<d∨(v=d∧x.2≠[])
theorem Qk0 {w h:Int} {b:List Int} {a d:Int} {x:List Int×List Int} {p:Nat} (hx:Hi d x):Hi d (Po w h b a d x p):=by
 unfold Po
 split
 ·intro v hv
  rcases List.mem_or_eq_of_mem_set hv with h6|rfl
  ·rcases hx v h6 with h7|h7
   ·exact .inl h7
   ·exact .inr ⟨h7.1,by simp⟩
  ·exact .inr ⟨rfl,by simp⟩
 ·exact hx
theorem zp {w h:Int} {b:List Int} {a d:Int}:∀(l:List Nat) (x:List Int×List Int),Hi d x→Hi d (l.foldl (Po w h b a d) x)
 | [],x,hx=>hx
 | p::l,x,hx=>zp l _ (Qk0 hx)
theorem Run.hi {w h:Int} {b s rest nx:List Int} {d:Int} {r:List Int} (R:Run w h b s rest nx d r):Inv w h s rest nx d→Hi d (s,nx)→∀v∈r,v<cnt w h:=by
 induction R with
 | done s d=>
  intro i hh v hv
  rcases hh v hv with h1|h1
  ·have:=i.sum;simp at this;omega
  ·exact absurd rfl h1.2
 | level _ ih=>
  exact fun i hh=>ih i.level (fun v hv=>by rcases hh v hv with h1|h1<;>exact .inl (by omega))
 | node _ ih=>exact fun i hh=>ih i.node (zp _ _ hh)
theorem Qc0 {w h:Int} {b:List Int} {root:Int} (H:Zv w h b root):∀v∈Wg w h b root,v<cnt w h:=by
 refine (Rf H).hi (Ti H.2).1 (fun v hv=>?_)
 have:=(Ti H.2).1.low v hv
 rcases List.mem_or_eq_of_mem_set hv with h6|rfl
 ·have:=List.eq_of_mem_replicate h6;exact .inl (by omega)
 ·exact .inl (by omega)
theorem Cy (w h:Int) (b d:List Int) (i:Int):K9 w h b d i=-1∨∃p:Nat,p<4∧K9 w h b d i=next w h i p∧Yq w h b d i p∧rd d i>0:=by
 unfold K9
 by_cases h0:rd d i>0
 ·rw [if_pos h0]
  by_cases e0:Yq w h b d i 0
  ·rw [if_pos e0];exact .inr ⟨0,by omega,rfl,e0,h0⟩
  rw [if_neg e0]
  by_cases e1:Yq w h b d i 1
  ·rw [if_pos e1];exact .inr ⟨1,by omega,rfl,e1,h0⟩
  rw [if_neg e1]
  by_cases e2:Yq w h b d i 2
  ·rw [if_pos e2];exact .inr ⟨2,by omega,rfl,e2,h0⟩
  rw [if_neg e2]
  by_cases e3:Yq w h b d i 3
  ·rw [if_pos e3];exact .inr ⟨3,by omega,rfl,e3,h0⟩
  rw [if_neg e3];exact .inl rfl
 ·rw [if_neg h0];exact .inl rfl
def Tree (t:List Int) (m:Int→Int):Prop:=∀i:Int,0≤i→i<t.length→m i<t.length∧(rd t i=-1∨(0≤rd t i∧rd t i<t.length∧0≤m (rd t i)∧m (rd t i)+1=m i))
theorem Aa {w h:Int} {b:List Int} {root:Int} (H:Zv w h b root):Tree (Wb w h b root) (rd (Wg w h b root)):=by
 have hl:=Sy w h b root
 obtain ⟨hc,_⟩:=Zh H
 intro i h0 h1
 have h2:i<((Wg w h b root).length:Int):=by omega
 refine ⟨by have:=Qc0 H _ (Jj h0 h2);omega,?_⟩
 have e:rd (Wb w h b root) i=K9 w h b (Wg w h b root) i:=by
  obtain ⟨j,rfl⟩:=Int.eq_ofNat_of_zero_le h0
  rw [Oo (by omega)];simp [Wb,Qag]
 rw [e]
 rcases Cy w h b (Wg w h b root) i with h3|⟨p,hp,h3,h4,h5⟩
 ·exact .inl h3
 ·obtain ⟨_,hn,_⟩:=Za hp h4.1
  rw [h3]
  refine .inr ⟨hn.1,by have:=hn.2;omega,?_,?_⟩
  ·have:=h4.2;omega
  ·have:=h4.2;omega
def wj (P:List Int) (a:Int):Prop:=0≤a∧a<P.length
instance (P:List Int) (a:Int):Decidable (wj P a):=inferInstanceAs (Decidable (_∧_))
@[simp] theorem Q07 (P:List Int):wj P (-1)=False:=by simp [wj]
def R5 (P:List Int):Nat→Int→List Int→List Int
 | 0,a,out=>if wj P a then [] else if a=-1∧out≠[] then out else []
 | f+1,a,out=>if wj P a then R5 P f (rd P a) (out++[a]) else if a=-1∧out≠[] then out else []
def Y0 (P:List Int) (a:Int):List Int:=R5 P P.length a []
theorem Qeq (P:List Int):∀f a out,(R5 P f a out).length≤out.length+f:=by
 intro f
 induction f with
 | zero=>
  intro a out;unfold R5;repeat' split
  all_goals simp
 | succ f ih=>
  intro a out;unfold R5;split
  ·have:=ih (rd P a) (out++[a]);simp at this;omega
  ·split<;>simp
theorem Ri (P:List Int) (a:Int):(Y0 P a).length≤P.length:=by have:=Qeq P P.length a [];simpa [Y0] using this
theorem Qhq (P:List Int):∀f a out,(∀x∈out,wj P x)→∀x∈R5 P f a out,wj P x:=by
 intro f
 induction f with
 | zero=>
  intro a out ho x hx;unfold R5 at hx;repeat' split at hx
  all_goals first|exact ho x hx|(simp at hx)
 | succ f ih=>
  intro a out ho x hx;unfold R5 at hx;split at hx
  ·rename_i h1
   exact ih _ _ (fun y hy=>by rcases List.mem_append.1 hy with hy|hy;exact ho y hy;rw [List.mem_singleton.1 hy];exact h1) x hx
  ·split at hx
   ·exact ho x hx
   ·simp at hx
theorem Qk1 {P:List Int} {a x:Int} (h:x∈Y0 P a):wj P x:=Qhq P P.length a [] (by simp) x h
def common (P:List Int) (a b:Int):Int:=((Y0 P a).find? (fun x=>decide (x∈Y0 P b))).getD (-1)
theorem B5 {P:List Int} {a b:Int} (h:∀x∈Y0 P a,x∉Y0 P b):common P a b=-1:=by
 unfold common
 rw [List.find?_eq_none.2 (by simpa using h)];rfl
theorem Ld {P:List Int} {a b:Int} (h:0≤common P a b):common P a b∈Y0 P a∧common P a b∈Y0 P b:=by
 unfold common at h ⊢
 cases hf:(Y0 P a).find? (fun x=>decide (x∈Y0 P b)) with
 | none=>rw [hf] at h;simp at h
 | some u=>
  have h1:=List.mem_of_find?_eq_some hf
  have h2:=List.find?_some hf
  exact ⟨h1,by simpa using h2⟩
def Xw (P:List Int) (a b:Int):List Int:=
 if common P a b<0 then [] else (Y0 P a).take ((Y0 P a).idxOf (common P a b)+1)++((Y0 P b).take ((Y0 P b).idxOf (common P a b))).reverse
theorem Qi3 {l:List Int} {q:Int→Bool} {j:Nat} (h:j<l.length) (hq:∀x∈l.take j,q x=false) (hx:q l[j]=true):l.find? q=some l[j]:=by
 have e:l=l.take j++(l[j]::l.drop (j+1)):=by rw [← List.drop_eq_getElem_cons h,List.take_append_drop]
 have e2:=congrArg (List.find? q) e
 rw [e2,List.find?_append,List.find?_eq_none.2 (by simpa using hq),List.find?_cons_of_pos hx];rfl
def chain (t:List Int):Nat→Int→List Int
 | 0,_=>[]
 | k+1,v=>if wj t v then v::chain t k (rd t v) else []
def Ends (t:List Int):Nat→Int→Prop
 | 0,v=>v=-1
 | k+1,v=>v=-1∨(wj t v∧Ends t k (rd t v))
theorem Tree.ends {t:List Int} {m:Int→Int} (T:Tree t m):∀(k:Nat) (v:Int),0≤v→v<t.length→m v<k→(0≤m v∨0<k)→Ends t k v:=by
 intro k
 induction k with
 | zero=>intro v h0 h1 h2 h3;omega
 | succ k ih=>
  intro v h0 h1 h2 _
  refine .inr ⟨⟨h0,h1⟩,?_⟩
  rcases (T v h0 h1).2 with h3|⟨h3,h4,h5,h6⟩
  ·rw [h3];cases k<;>simp [Ends]
  ·exact ih _ h3 h4 (by omega) (.inl h5)
theorem mp {t:List Int}:∀(k:Nat) (v:Int) (out:List Int),Ends t k v→(out≠[]∨(0≤v∧v<t.length))→R5 t k v out=out++chain t k v:=by
 intro k
 induction k with
 | zero=>
  intro v out he ho
  have he:v=-1:=he
  subst he
  have ho:out≠[]:=ho.resolve_right (by omega)
  simp [R5,chain,ho]
 | succ k ih=>
  intro v out he ho
  rcases he with rfl|⟨h1,h2⟩
  ·have ho:out≠[]:=ho.resolve_right (by omega)
   simp [R5,chain,ho]
  ·simp only [R5,chain]
   rw [if_pos h1,if_pos h1,ih _ _ h2 (.inl (by simp))]
   simp
theorem Qco {t:List Int}:∀(k k':Nat) (v:Int),Ends t k v→Ends t k' v→chain t k v=chain t k' v:=by
 intro k
 induction k with
 | zero=>
  intro k' v h1 h2
  have h1:v=-1:=h1
  subst h1
  cases k' with
  | zero=>rfl
  | succ k'=>simp [chain]
 | succ k ih=>
  intro k' v h1 h2
  cases k' with
  | zero=>
   have h2:v=-1:=h2
   subst h2;simp [chain]
  | succ k'=>
   rcases h1 with rfl|⟨h1,h3⟩
   ·simp [chain]
   ·rcases h2 with rfl|⟨_,h4⟩
    ·simp at h1
    ·simp only [chain];rw [if_pos h1,if_pos h1,ih _ _ h3 h4]
theorem Qgn {t:List Int} {m:Int→Int} (T:Tree t m) {v:Int} (h0:0≤v) (h1:v<t.length):Y0 t v=v::(if rd t v=-1 then [] else Y0 t (rd t v)):=by
 have hE:∀u:Int,0≤u→u<t.length→Ends t t.length u:=fun u a b=>T.ends t.length u a b (T u a b).1 (.inr (by omega))
 have e:∀u:Int,0≤u→u<t.length→Y0 t u=chain t t.length u:=fun u a b=>by
  have:=mp t.length u [] (hE u a b) (.inr ⟨a,b⟩);simpa [Y0] using this
 rw [e v h0 h1]
 obtain ⟨n,hn⟩:∃n,t.length=n+1:=⟨t.length-1,by omega⟩
 have h2:=hE v h0 h1
 rw [hn] at h2 ⊢
 rcases h2 with h2|⟨_,h3⟩
 ·omega
 simp only [chain]
 rw [if_pos (show wj t v from ⟨h0,h1⟩)]
 rcases (T v h0 h1).2 with h4|⟨h4,h5,_,_⟩
 ·rw [if_pos h4,h4];cases n<;>simp [chain]
 ·rw [if_neg (by omega),e _ h4 h5,Qco n t.length _ h3 (hE _ h4 h5)]
end Go.Proofs.YtlhaeingdonaeaaGreat.V
set_option linter.all false
namespace Go.Proofs.YtlhaeingdonaeaaGreat.V
open Go Go.VM Go.Proofs
set_option maxRecDepth 10000
variable {frz:Nat} {H:Qd}
theorem Qmc (v:Value) (P:List Int) (a:Int) (hI:W7 H v P) (hl:P.length≤1073741823) :
 Qh C frz 241 [v,.int .i64 a] H=some (.slice (some ⟨H.length,0,some 0⟩) (Y0 P a).length 0,H++[⟨(Y0 P a).map (.int .i64),0,3⟩]):=by
 rw [Qb (fn:=Tryz.f241) Tryz.func241 rfl (by kernel_rfl) rfl]
 simp
 refine Z2 (fun n t H'=>∃(o:List Int) (g:Nat) (x:Int) (G:Qd),n=P.length-o.length∧t 0=v∧t 5=.slice (some ⟨H.length,0,some g⟩) o.length 0∧t 6=.int .i64 x∧
  H'=H++⟨o.map (.int .i64),g,3⟩::G∧o.length≤P.length∧R5 P (P.length-o.length) x o=Y0 P a) ?_ (n:=P.length) ⟨[],0,a,[],by simp [Y0]⟩
 rintro n t H' ⟨o,g,x,G,rfl,h0,h5,h6,rfl,ho,hw⟩ ih
 have hin:Xa 0 x (IntKind.i64.wrap ((P.length:Int)-1))↔wj P x:=by
  rw [Q0 (by omega) (by omega)];simp only [Xa,wj];omega
 simp [h0,h5,h6,hI.lenA,Ws,Wd,hin]
 refine Q7 _ ?_ ?_<;>intro hx
 ·simp [h0,h5,h6,hI.lenA]
  refine Q7 _ ?_ ?_<;>intro hf
  ·have hz:Y0 P a=[]:=by
    rw [← hw,show P.length-o.length=0 by omega,R5,if_pos hx]
   simp [h0,h5,h6,hz]
  ·have q1:∀L,Q6 Tryz.prog (H++L) 24 v (.int .i64 x)=some (Yi v x.toNat):=fun L=>hI.idxA (e:=3) (by simp) hx.1 hx.2
   have q2:∀L,Xh Tryz.prog (H++L) 3 (Yi v x.toNat)=some (.int .i64 (rd P x)):=fun L=>hI.loadA (by simp) (by have:=hx.1;have:=hx.2;omega)
   simp [h0,h5,h6]
   refine Ys (by omega) ?_
   simp [h0,h5,h6,q1,q2]
   refine ih (P.length-(o.length+1)) _ _ ⟨o++[x],g+1,rd P x,_,by simp,by simp [h0],by simp,by simp,by simp;rfl,by simp;omega,?_⟩ (by omega)
   rw [show P.length-o.length=(P.length-(o++[x]).length)+1 by simp;omega,R5,if_pos hx] at hw
   exact hw
 ·have hz:Y0 P a=if x=-1∧o≠[] then o else []:=by
   rw [← hw];cases P.length-o.length<;>simp only [R5,if_neg hx]
  simp [h0,h5,h6]
  refine Xs _ _ ?_ ?_<;>intro h1
  ·simp [h0,h5,h6,h1]
   by_cases ho0:o=[]
   ·simp [h0,h5,h6,h1,ho0,hz]
   ·have:o.length≠0:=fun hh=>ho0 (List.length_eq_zero_iff.1 hh)
    simp [h0,h5,h6,h1,ho0,hz]
  ·simp [h0,h5,h6,h1,hz]
theorem Qqr (v:Value) (P:List Int) (a:Int) (hI:W7 H v P) (hl:P.length≤1073741823) :
 Qh C frz 262 [v,.int .i64 a] H=some (if Y0 P a=[] then (.slice none 0 0,H) else (.slice (some ⟨H.length,0,some 0⟩) (Y0 P a).length 0,H++[⟨(Y0 P a).map (.int .i64),0,3⟩])):=by
 rw [Qb (fn:=Tryz.f262) Tryz.func262 rfl (by kernel_rfl) rfl]
 simp
 refine Z2 (fun n t H'=>∃(o:List Int) (g:Nat) (x:Int) (G:Qd),n=P.length-o.length∧t 0=v∧t 5=.slice (some ⟨H.length,0,some g⟩) o.length 0∧t 6=.int .i64 x∧
  H'=H++⟨o.map (.int .i64),g,3⟩::G∧o.length≤P.length∧R5 P (P.length-o.length) x o=Y0 P a) ?_ (n:=P.length) ⟨[],0,a,[],by simp [Y0]⟩
 rintro n t H' ⟨o,g,x,G,rfl,h0,h5,h6,rfl,ho,hw⟩ ih
 have hin:Xa 0 x (IntKind.i64.wrap ((P.length:Int)-1))↔wj P x:=by
  rw [Q0 (by omega) (by omega)];simp only [Xa,wj];omega
 simp [h0,h5,h6,hI.lenA,Ws,Wd,hin]
 have hz:¬wj P x→Y0 P a=if x=-1∧o≠[] then o else []:=fun hx=>by
  rw [← hw];cases P.length-o.length<;>simp only [R5,if_neg hx]
 have hm:¬wj P (-1):=fun hh=>by have:=hh.1;omega
 refine Xs _ _ ?_ ?_<;>intro h1
 ·have hx:¬wj P x:=h1▸hm
  by_cases ho0:o=[]
  ·have:=hz hx
   simp [ho0] at this
   have hm':¬Xa 0 (-1) (IntKind.i64.wrap ((P.length:Int)-1)):=fun hh=>by have:=hh.1;omega
   simp [h0,h5,h6,h1,ho0,hI.lenA,Wd,hm',this]
  ·have hol:o.length≠0:=fun hh=>ho0 (List.length_eq_zero_iff.1 hh)
   have:=hz hx
   simp [h1,ho0] at this
   simp [h0,h5,h6,h1,ho0,this]
 ·simp [h0,h5,h6,h1,hI.lenA,Wd,hin]
  refine Xs _ _ ?_ ?_<;>intro hx
  ·simp [h0,h5,h6,hx,hI.lenA]
   refine Q7 _ ?_ ?_<;>intro hf
   ·have hz':Y0 P a=[]:=by
     rw [← hw,show P.length-o.length=0 by omega,R5,if_pos hx]
    simp [h0,h5,h6,hz']
   ·have q1:∀L,Q6 Tryz.prog (H++L) 24 v (.int .i64 x)=some (Yi v x.toNat):=fun L=>hI.idxA (e:=3) (by simp) hx.1 hx.2
    have q2:∀L,Xh Tryz.prog (H++L) 3 (Yi v x.toNat)=some (.int .i64 (rd P x)):=fun L=>hI.loadA (by simp) (by have:=hx.1;have:=hx.2;omega)
    simp [h0,h5,h6]
    refine Ys (by omega) ?_
    simp [h0,h5,h6,q1,q2]
    refine ih (P.length-(o.length+1)) _ _ ⟨o++[x],g+1,rd P x,_,by simp,by simp [h0],by simp,by simp,by simp;rfl,by simp;omega,?_⟩ (by omega)
    rw [show P.length-o.length=(P.length-(o++[x]).length)+1 by simp;omega,R5,if_pos hx] at hw
    exact hw
  ·have:=hz hx
   simp [h1] at this
   simp [h0,h5,h6,hx,this]
theorem yl {xs:List Int} {r:Option (Value×Qd)} (h:r=some (if xs=[] then (.slice none 0 0,H) else (.slice (some ⟨H.length,0,some 0⟩) xs.length 0,H++[⟨xs.map (.int .i64),0,3⟩]))):wp r (Made Fl.int 3 H xs):=by
 subst h
 by_cases hx:xs=[]
 ·simp [hx];exact ⟨[],by simp,.inl ⟨rfl,rfl⟩,by simp⟩
 ·simp [hx]
  exact ⟨_,rfl,Ow.new0 rfl (W1 xs).symm (by simp) rfl,by simp⟩
theorem Qeo {xs:List Int} {r:Option (Value×Qd)} (h:r=some (.slice (some ⟨H.length,0,some 0⟩) xs.length 0,H++[⟨xs.map (.int .i64),0,3⟩])):wp r (Made Fl.int 3 H xs):=by
 subst h
 simp
 exact ⟨_,rfl,Ow.new0 rfl (W1 xs).symm (by simp) rfl,by simp⟩
theorem Qb4 (v:Value) (P:List Int) (a:Int) (hI:W7 H v P) (hl:P.length≤1073741823):wp (Qh C frz 262 [v,.int .i64 a] H) (Made Fl.int 3 H (Y0 P a)):=yl (Qqr v P a hI hl)
theorem qj (v:Value) (P:List Int) (a:Int) (hI:W7 H v P) (hl:P.length≤1073741823):wp (Qh C frz 241 [v,.int .i64 a] H) (Made Fl.int 3 H (Y0 P a)):=Qeo (Qmc v P a hI hl)
theorem Bj {P:List Int} {a b:Int} {i:Nat} (h:i<(Y0 P a).length) (h1:∀x∈(Y0 P a).take i,x∉Y0 P b) (h2:(Y0 P a)[i]∈Y0 P b):common P a b=(Y0 P a)[i]:=by
 unfold common
 rw [Qi3 h (by simpa using h1) (by simpa using h2)];rfl
theorem Pv {xs:List Int} {p:Int→Prop} {i:Nat} (h:i<xs.length) (h1:∀x∈xs.take i,p x) (h2:p xs[i]):∀x∈xs.take (i+1),p x:=by
 rw [List.take_succ_eq_append_getElem h]
 intro x hx
 rcases List.mem_append.1 hx with hx|hx
 ·exact h1 x hx
 ·rw [List.mem_singleton.1 hx];exact h2
theorem Qf8 (v:Value) (P:List Int) (a b:Int) (hI:W7 H v P) (hl:P.length≤1073741823) :
 wp (Qh C frz 261 [v,.int .i64 a,.int .i64 b] H) (fun r _=>r=.int .i64 (common P a b)):=by
 rw [Qb (fn:=Tryz.f261) Tryz.func261 rfl (by kernel_rfl) rfl]
 simp
 refine Ql (Qb4 v P b hI hl) ?_
 rintro vb _ ⟨L1,rfl,ob,nb⟩
 simp
 refine Ql (Qb4 v P a (hI.app _) hl) ?_
 rintro va _ ⟨L2,rfl,oa,na⟩
 have ob:=(ob.app (L:=L2)).rd.isI
 have oa:=oa.rd.isI
 have hla:=Ri P a
 have hlb:=Ri P b
 simp only [List.append_assoc] at oa ob
 simp [oa.len]
 refine Qw (fun n t H'=>∃i:Nat,n=(Y0 P a).length-i∧i≤(Y0 P a).length∧t 7=vb∧t 15=va∧t 16=.int .i64 (Y0 P a).length∧t 17=.int .i64 i∧H'=H++(L1++L2)∧∀x∈(Y0 P a).take i,x∉Y0 P b) ?_ (n:=(Y0 P a).length) ⟨0,by simp⟩
 rintro n t H' ⟨i,rfl,hi,h7,h15,h16,h17,rfl,hj⟩ ih
 simp [h7,h15,h16,h17]
 refine Qm ?_ ?_<;>intro h5
 ·simp [h7,h15,h16,h17,h5,oa.idx,oa.load,Wh,Ob _ _ _ ob (by omega)]
  refine Qm ?_ ?_<;>intro h6
  ·simp [h7,h15,h16,h17,h5,h6]
   exact (Bj h5 hj h6).symm
  ·simp [h7,h15,h16,h17,h5,h6]
   refine ih ((Y0 P a).length-(i+1)) _ _ ⟨i+1,rfl,by omega,by simp [h7],by simp [h15],by simp [h16],?_,rfl,Pv h5 hj h6⟩ (by omega)
   simp;rw [Q0 (by omega) (by omega)]
 ·have:i=(Y0 P a).length:=by omega
  subst this
  simp
  rw [List.take_length] at hj
  rw [B5 hj]
theorem Qfy (v:Value) (P:List Int) (a b:Int) (hI:W7 H v P) (hl:P.length≤1073741823):Qh C frz 261 [v,.int .i64 a,.int .i64 b] H=some (.int .i64 (common P a b),H):=
 (Qf8 v P a b hI hl).exact (by simp) rfl
theorem Qcj (v:Value) (P:List Int) (a b:Int) (hI:W7 H v P) (hl:P.length≤1073741823) :
 wp (Qh C frz 240 [v,.int .i64 a,.int .i64 b] H) (fun r _=>r=.int .i64 (common P a b)):=by
 rw [Qb (fn:=Tryz.f240) Tryz.func240 rfl (by kernel_rfl) rfl]
 simp
 refine Ql (qj v P a hI hl) ?_
 rintro va _ ⟨L1,rfl,oa,na⟩
 simp
 refine Ql (qj v P b (hI.app _) hl) ?_
 rintro vb _ ⟨L2,rfl,ob,nb⟩
 have oa:=(oa.app (L:=L2)).rd.isI
 have ob:=ob.rd.isI
 have hla:=Ri P a
 have hlb:=Ri P b
 simp only [List.append_assoc] at oa ob
 simp
 refine Qw (fun n t H'=>∃i:Nat,n=(Y0 P a).length-i∧i≤(Y0 P a).length∧t 7=va∧t 8=vb∧t 9=.int .i64 i∧H'=H++(L1++L2)∧∀x∈(Y0 P a).take i,x∉Y0 P b) ?_ (n:=(Y0 P a).length) ⟨0,by simp⟩
 rintro n t H' ⟨i,rfl,hi,h7,h8,h9,rfl,hj⟩ ih
 simp [h7,h8,h9,oa.len]
 refine Qm ?_ ?_<;>intro h5
 ·simp [h7,h8,h9,h5,oa.idx,oa.load,Wh,Qfp _ _ _ ob (by omega)]
  refine Qm ?_ ?_<;>intro h6
  ·simp [h7,h8,h9,h5,h6,oa.idx,oa.load,Wh]
   exact (Bj h5 hj h6).symm
  ·simp [h7,h8,h9,h5,h6]
   refine ih ((Y0 P a).length-(i+1)) _ _ ⟨i+1,rfl,by omega,by simp [h7],by simp [h8],?_,rfl,Pv h5 hj h6⟩ (by omega)
   simp;rw [Q0 (by omega) (by omega)]
 ·have:i=(Y0 P a).length:=by omega
  subst this
  simp
  rw [List.take_length] at hj
  rw [B5 hj]
theorem Qc8 (v:Value) (P:List Int) (a b:Int) (hI:W7 H v P) (hl:P.length≤1073741823):Qh C frz 240 [v,.int .i64 a,.int .i64 b] H=some (.int .i64 (common P a b),H):=
 (Qcj v P a b hI hl).exact (by simp) rfl
def flip (xs:List Int) (i:Nat):List Int:=(List.range xs.length).map fun j=>if j<i∨xs.length-i≤j then rd xs ((xs.length-1-j:Nat):Int) else rd xs (j:Int)
theorem Tv (xs:List Int) (i:Nat):(flip xs i).length=xs.length:=by simp [flip]
theorem Pc (xs:List Int) (i j:Nat) (h:j<xs.length):(flip xs i)[j]'(by rw [Tv];exact h)=if j<i∨xs.length-i≤j then xs[xs.length-1-j] else xs[j]:=by
 simp only [flip,List.getElem_map,List.getElem_range]
 split
 ·rw [Oo (by omega)]
 ·rw [Oo h]
theorem Qdt (xs:List Int):flip xs 0=xs:=by
 apply List.ext_getElem (Tv _ _)
 intro j h1 h2
 rw [Pc _ _ _ h2,if_neg (by omega)]
theorem Qfb (xs:List Int) (i:Nat) (h:xs.length≤2*i+1):flip xs i=xs.reverse:=by
 apply List.ext_getElem (by rw [Tv,List.length_reverse])
 intro j h1 h2
 rw [Pc _ _ _ (by simpa using h2),List.getElem_reverse]
 split
 ·rfl
 ·congr 1;rw [List.length_reverse] at h2;omega
theorem Qdl (xs:List Int) (i:Nat) (h:2*i+1<xs.length):((flip xs i).set i ((flip xs i)[xs.length-1-i]'(by rw [Tv];omega))).set (xs.length-1-i) ((flip xs i)[i]'(by rw [Tv];omega))=flip xs (i+1):=by
 apply List.ext_getElem (by simp [Tv])
 intro j h1 h2
 rw [Tv] at h2
 rw [List.getElem_set,List.getElem_set,Pc _ _ _ h2,Pc _ _ _ (by omega),Pc _ _ _ (by omega),Pc _ _ _ h2]
 by_cases e1:xs.length-1-i=j
 ·subst e1
  rw [if_pos rfl,if_neg (by omega),if_pos (by omega)]
  congr 1;omega
 ·by_cases e2:i=j
  ·subst e2
   rw [if_neg e1,if_pos rfl,if_neg (by omega),if_pos (by omega)]
  ·rw [if_neg e1,if_neg e2]
   by_cases e3:j<i∨xs.length-i≤j
   ·rw [if_pos e3,if_pos (by omega)]
   ·rw [if_neg e3,if_neg (by omega)]
theorem Qcp (v:Value) (xs:List Int) (e:TypeId) (h:Ow Fl.int e H v xs) (hl:xs.length≤1073741824) (hf:∀i∈ids v,frz≤i) :
 wp (Qh C frz 263 [v] H) (fun _ H'=>Ow Fl.int e H' v xs.reverse∧Qp H H' (ids v)∧H'.length=H.length):=by
 rw [Qb (fn:=Tryz.f263) Tryz.func263 rfl (by kernel_rfl) rfl]
 simp [h.rd.len]
 refine Qw (fun n t H'=>∃i:Nat,n=xs.length-i∧i≤xs.length∧t 0=v∧t 2=.int .i64 i∧t 3=.int .i64 (xs.length-1-i)∧2*i≤xs.length+1∧Ow Fl.int e H' v (flip xs i)∧Qp H H' (ids v)∧H'.length=H.length) ?_ (n:=xs.length)
  ⟨0,by simp,by omega,by simp,by simp,by simp;exact Q0 (by omega) (by omega),by omega,by rw [Qdt];exact h,Qp.refl _,rfl⟩
 rintro n t H' ⟨i,rfl,hi,h0,h2,h3,h2i,o,c,l⟩ ih
 simp [h0,h2,h3]
 refine Qm ?_ ?_<;>intro h5
 ·have i1:=o.rd.isI
  have fl:=Tv xs i
  have e1:((xs.length:Int)-1-i).toNat=xs.length-1-i:=by omega
  have e2:((xs.length:Int)-1-i)=((xs.length-1-i:Nat):Int):=by omega
  rw [e2] at h3
  simp [h0,h2,h3,h5]
  rw [Qv (h:=by kernel_rfl)]
  have p1:i<(flip xs i).length:=by omega
  have p2:xs.length-1-i<(flip xs i).length:=by omega
  simp [h0,h2,h3,h5,i1.idx,i1.load,p1,p2,Wh]
  obtain ⟨H1,s1,o1,c1,l1⟩:=o.put1 (P:=Tryz.prog) (frz:=frz) rfl (et:=3) (ag:=false) (by simp) p1 (x:=.int .i64 ((flip xs i)[xs.length-1-i])) rfl rfl rfl hf
  have i2:=o1.rd.isI
  have p3:xs.length-1-i<((flip xs i).set i (flip xs i)[xs.length-1-i]).length:=by simp;omega
  obtain ⟨H2,s2,o2,c2,l2⟩:=o1.put1 (P:=Tryz.prog) (frz:=frz) rfl (et:=3) (ag:=false) (by simp) p3 (x:=.int .i64 ((flip xs i)[i])) rfl rfl rfl hf
  simp [s1,h0,h2,h3,i2.idx,p2,s2]
  refine ih (xs.length-(i+1)) _ _ ⟨i+1,rfl,by omega,by simp [h0],?_,?_,by omega,?_,c.trans (c1.trans c2),by omega⟩ (by omega)
  ·simp;rw [Q0 (by omega) (by omega)]
  ·simp;rw [Q0 (by omega) (by omega)];omega
  ·rw [Qdl xs i (by omega)] at o2;exact o2
 ·simp
  exact ⟨by rw [← Qfb xs i (by omega)];exact o,c,l⟩
def marks (k:Int) (n:Nat):List Int:=(List.range n).map fun i:Nat=>k+(i:Int)
@[simp] theorem Qcx (k:Int) (n:Nat):(marks k n).length=n:=by simp [marks]
theorem Qai (k:Int) (n:Nat):marks k (n+1)=marks k n++[k+n]:=by simp [marks,List.range_succ]
theorem Qct (k:Int) (n i:Nat) (h:i<n):(marks k n)[i]'(by simpa using h)=k+i:=by simp [marks]
theorem Qc3 (k:Int) (xs:List Int) (i:Nat) (h:i<xs.length):(marks k i++xs.drop i).set i (k+i)=marks k (i+1)++xs.drop (i+1):=by
 rw [List.set_append_right _ _ (by simp),Qcx,Nat.sub_self,List.drop_eq_getElem_cons h,List.set_cons_zero,Qai];simp
theorem Qab (v:Value) (xs:List Int) (e:TypeId) (k:Int) (h:Ow Fl.int e H v xs) (hl:xs.length≤1073741824) (hk:0≤k∧k≤4611686018427387904) (hf:∀i∈ids v,frz≤i) :
 wp (Qh C frz 17 [v,.int .i64 k] H) (fun r H'=>r=.int .i64 (k+xs.length)∧Ow Fl.int e H' v (marks k xs.length)∧Qp H H' (ids v)∧H'.length=H.length):=by
 rw [Qb (fn:=Tryz.f17) Tryz.func17 rfl (by kernel_rfl) rfl]
 simp
 refine Qw (fun n t H'=>∃i:Nat,n=xs.length-i∧i≤xs.length∧t 0=v∧t 1=.int .i64 (k+i)∧t 5=.int .i64 i∧Ow Fl.int e H' v (marks k i++xs.drop i)∧Qp H H' (ids v)∧H'.length=H.length) ?_ (n:=xs.length)
  ⟨0,by simp,by omega,by simp,by simp,by simp,by simpa [marks] using h,Qp.refl _,rfl⟩
 rintro n t H' ⟨i,rfl,hi,h0,h1,h5,o,c,l⟩ ih
 have hlen:(marks k i++xs.drop i).length=xs.length:=by simp;omega
 simp [h0,h1,h5,o.rd.len,hlen]
 have e1:(i:Int)+((xs.length-i:Nat):Int)=xs.length:=by omega
 refine Qm ?_ ?_<;>intro h6
 ·have i1:=o.rd.isI
  have p1:i<(marks k i++xs.drop i).length:=by omega
  obtain ⟨H1,s1,o1,c1,l1⟩:=o.put1 (P:=Tryz.prog) (frz:=frz) rfl (et:=3) (ag:=false) (by simp) p1 (x:=.int .i64 (k+i)) rfl rfl rfl hf
  have q1:=i1.idx (P:=Tryz.prog) (ty:=24) (e:=3) (by simp) (i:=(i:Int)) (by omega) (by omega)
  simp only [Int.toNat_natCast] at q1
  simp [h0,h1,h5,q1,s1]
  refine ih (xs.length-(i+1)) _ _ ⟨i+1,rfl,by omega,by simp [h0],?_,?_,?_,c.trans c1,by omega⟩ (by omega)
  ·simp;rw [Q0 (by omega) (by omega)];omega
  ·simp;rw [Q0 (by omega) (by omega)]
  ·rw [Qc3 _ _ _ (by omega)] at o1;exact o1
 ·have:i=xs.length:=by omega
  subst this
  simp [h0,h1,h5]
  exact ⟨by simpa using o,c,l⟩
theorem Qaf (v:Value) (n:Nat) (k:Int) (h:W7 H v (marks k n)) (hl:n≤1073741824) (hk:0≤k∧k≤4611686018427387904) :
 Qh C frz 19 [v,.int .i64 k] H=some (.int .i64 (k+n),H):=by
 rw [Qb (fn:=Tryz.f19) Tryz.func19 rfl (by kernel_rfl) rfl]
 simp
 refine Z2 (fun m t H'=>∃i:Nat,m=n-i∧i≤n∧t 0=v∧t 1=.int .i64 (k+i)∧t 5=.int .i64 i∧H'=H) ?_ (n:=n) ⟨0,by simp⟩
 rintro m t H' ⟨i,rfl,hi,h0,h1,h5,rfl⟩ ih
 simp [h0,h1,h5,h.len]
 refine Q7 _ ?_ ?_<;>intro h6
 ·have q1:=h.idx (P:=Tryz.prog) (ty:=24) (e:=3) (by simp) (i:=(i:Int)) (by omega) (by simpa using h6)
  have q2:=h.load (P:=Tryz.prog) (e:=3) (by simp) (j:=i) (by simpa using h6)
  rw [Wh _ _ (by simpa using h6),Qct _ _ _ h6] at q2
  simp only [Int.toNat_natCast] at q1
  simp [h0,h1,h5,h6,q1,q2]
  refine ih (n-(i+1)) _ _ ⟨i+1,rfl,by omega,by simp [h0],?_,?_,rfl⟩ (by omega)
  ·simp;rw [Q0 (by omega) (by omega)];omega
  ·simp;rw [Q0 (by omega) (by omega)]
 ·have:i=n:=by omega
  subst this
  simp [h0,h1,h5]
def big:Nat:=1073741824
abbrev Qf:Dt Value (List Int):=Ip Fl.int 3 1073741824
def Marks {V A:Type} (B:Int) (T:Dt V A) (held:Nat) (H:Qd) (v:V) (a:A) (k:Int) (r:Value) (H':Qd):Prop:=
 ∃(n:Int) (a':A),r=.int .i64 (k+n)∧(0≤n∧n≤B)∧T.val v a'=T.val v a∧T.Ow H' v a'∧Qp H H' (T.ids v)∧
  ∀F H2,T.Ow H2 v a'→Qh C F held [T.val v a',.int .i64 k] H2=some (.int .i64 (k+n),H2)
def Xr {V A:Type} (T:Dt V A) (H:Qd) (a:A) (ok:Bool) (r:Value) (H':Qd):Prop:=∃u,r=.tuple #[u,.bool ok]∧T.Made H a u H'
theorem xe (v:Value) (xs:List Int) (hI:W7 H v xs) (hb:xs.length≤1073741824):wp (Qh C frz 21 [v] H) (Qf.Made H xs):=by
 rw [Fq v xs hI hb]
 simp
 exact ⟨_,rfl,⟨Ow.new0 rfl (W1 xs).symm (by simp) rfl,hb⟩,Qp.app _,by simp [Ip],Wa (.slice (some ⟨H.length,0,some 0⟩) xs.length 0)⟩
theorem Na {a b:Value} {xs ys:List Int} (ha:Qf.Ow H a xs) (hb:Qf.Ow H b ys):Qh C frz 13 [a,b] H=some (.bool (decide (xs=ys)),H):=
 Ev a b xs ys ha.1.rd.isI hb.1.rd.isI ha.2
theorem S9 {v:Value} {xs:List Int} {k:Int} (h:Qf.Ow H v xs) (hd:(Qf.ids v).Nodup) (hk:0≤k∧k≤4611686018427387904) (hf:∀i∈Qf.ids v,frz≤i) :
 wp (Qh C frz 17 [v,.int .i64 k] H) (Marks 1073741824 Qf 19 H v xs k):=by
 refine (Qab v xs _ k h.1 h.2 hk hf).mono ?_
 rintro r H' ⟨rfl,o,c,l⟩
 have:=h.2
 refine ⟨xs.length,marks k xs.length,rfl,by omega,rfl,⟨o,by simpa using h.2⟩,c,fun F H2 h2=>?_⟩
 exact Qaf v xs.length k h2.1.rd.isI h.2 hk
abbrev Df:=Int×Int×List Int
def Qx:Dt Value Df where
 val v a:=.agg #[.int .i64 a.1,.int .i64 a.2.1,v]
 Ow H v a:=Qf.Ow H v a.2.2
 ids:=VM.ids
 frame h k:=Qf.frame h k
 lt h:=Qf.lt h
theorem W5 (v:Value) (a:Df):Qx.val v a=.agg #[.int .i64 a.1,.int .i64 a.2.1,v]:=rfl
theorem Zs {v:Value} {a:Df} (h:Qx.Ow H v a):VM.one v=true∧v.cells=#[v]:=⟨h.1.rd.one',h.1.rd.cells⟩
theorem Zt {v:Value} {a:List Int} (h:Qf.Ow H v a):VM.one v=true∧v.cells=#[v]:=⟨h.1.rd.one',h.1.rd.cells⟩
theorem Wl (v:Value) (a:List Int):Qf.val v a=v:=rfl
theorem Qg2 (w h:Int) (v:Value) (b:List Int) (hI:W7 H v b) (hb:b.length≤1073741824):wp (Qh C frz 71 [.agg #[.int .i64 w,.int .i64 h,v]] H) (Qx.Made H (w,h,b)):=by
 rw [Qg0 w h v b hI hb]
 simp
 exact ⟨_,rfl,⟨Ow.new0 rfl (W1 b).symm (by simp) rfl,hb⟩,Qp.app _,by simp [Qx],Wa (.slice (some ⟨H.length,0,some 0⟩) b.length 0)⟩
theorem Qfz {a b:Value} {x y:Df} (ha:Qx.Ow H a x) (hb:Qx.Ow H b y):Qh C frz 81 [Qx.val a x,Qx.val b y] H=some (.bool (decide (x=y)),H):=by
 obtain ⟨w,h,b1⟩:=x;obtain ⟨w',h',b2⟩:=y
 rw [W5,W5]
 have:=Qez (frz:=frz) w h w' h' a b b1 b2 ha.1.rd.isI hb.1.rd.isI ha.2
 rw [this]
 congr 3
 simp [and_assoc]
theorem kz {v:Value} {a:Df} {k:Int} (h:Qx.Ow H v a) (hd:(Qx.ids v).Nodup) (hk:0≤k∧k≤4611686018427387904) (hf:∀i∈Qx.ids v,frz≤i) :
 wp (Qh C frz 85 [Qx.val v a,.int .i64 k] H) (Marks 1073741824 Qx 88 H v a k):=by
 obtain ⟨w,g,b⟩:=a
 rw [Qb (fn:=Tryz.f85) Tryz.func85 rfl (by kernel_rfl) rfl]
 rw [W5]
 have one:=Zs h
 simp [one]
 refine Ql (S9 (Dt.app h) hd hk hf) ?_
 rintro _ H' ⟨n,a',rfl,hn,_,o,c,he⟩
 simp
 refine ⟨n,(w,g,a'),rfl,hn,rfl,o,(Qp.app _).trans c,fun F H2 h2=>?_⟩
 rw [Qb (fn:=Tryz.f88) Tryz.func88 rfl (by kernel_rfl) rfl]
 rw [W5]
 have he':=fun F=>he F _ (Dt.app (L:=[⟨[.int .i64 w,.int .i64 g,v],0,42⟩]) h2)
 simp only [Wl] at he'
 have e0:¬k+n<0:=by omega
 simp [one,he',e0]
def Wu:Dt Value (List Int) where
 val v _:=.agg #[v]
 Ow H v a:=Qf.Ow H v a
 ids:=VM.ids
 frame h k:=Qf.frame h k
 lt h:=Qf.lt h
theorem Wx (v:Value) (a:List Int):Wu.val v a=.agg #[v]:=rfl
theorem Xc {v:Value} {a:List Int} (h:Wu.Ow H v a):VM.one v=true∧v.cells=#[v]:=⟨h.1.rd.one',h.1.rd.cells⟩
theorem C2 (v:Value) (xs:List Int) (n:Int) (hI:W7 H v xs) (h0:0≤n) (h1:n≤1048576) (h2:xs.length≤9223372036854775807) :
 Qh C frz 97 [.agg #[v],.int .i64 n] H=some (.int .i64 (if n<xs.length then -1 else n-xs.length),H):=by
 rw [Qb (fn:=Tryz.f97) Tryz.func97 rfl (by kernel_rfl) rfl]
 simp [Kc _ _ _ (hI.app _) h0 h1 h2,hI.one',hI.cells]
 refine Q7 _ ?_ ?_<;>intro h<;>simp [h]
 ·intro hh;omega
theorem Bc (v:Value) (xs:List Int) (hI:W7 H v xs) (hb:xs.length≤1073741824) :
 wp (Qh C frz 124 [.agg #[v]] H) (Wu.Made H xs):=by
 rw [Qb (fn:=Tryz.f124) Tryz.func124 rfl (by kernel_rfl) rfl]
 simp [Fq _ _ (hI.app _) hb,hI.one',hI.cells]
 exact ⟨_,rfl,⟨Ow.new0 rfl (W1 xs).symm (by simp) rfl,hb⟩,Qp.app _,by simp [Wu],Wa (.slice (some ⟨H.length,0,some 0⟩) xs.length 0)⟩
theorem Co {a b:Value} {x y:List Int} (ha:Wu.Ow H a x) (hb:Wu.Ow H b y):Qh C frz 148 [Wu.val a x,Wu.val b y] H=some (.bool (decide (x=y)),H):=by
 rw [Wx,Wx]
 rw [Qb (fn:=Tryz.f148) Tryz.func148 rfl (by kernel_rfl) rfl]
 simp [Xc ha,Xc hb,Ev _ _ _ _ (ha.1.rd.isI.app _) (hb.1.rd.isI.app _) ha.2]
 refine Q7 _ ?_ ?_<;>intro h0<;>simp [h0]
theorem Ir {v:Value} {a:List Int} {k:Int} (h:Wu.Ow H v a) (hd:(Wu.ids v).Nodup) (hk:0≤k∧k≤4611686018427387904) (hf:∀i∈Wu.ids v,frz≤i) :
 wp (Qh C frz 150 [Wu.val v a,.int .i64 k] H) (Marks 1073741824 Wu 152 H v a k):=by
 rw [Qb (fn:=Tryz.f150) Tryz.func150 rfl (by kernel_rfl) rfl]
 rw [Wx]
 have one:=Xc h
 simp [one]
 refine Ql (S9 (Dt.app h) hd hk hf) ?_
 rintro _ H' ⟨n,a',rfl,hn,_,o,c,he⟩
 simp
 refine ⟨n,a',rfl,hn,rfl,o,(Qp.app _).trans c,fun F H2 h2=>?_⟩
 rw [Qb (fn:=Tryz.f152) Tryz.func152 rfl (by kernel_rfl) rfl]
 rw [Wx]
 have he':=fun F=>he F _ (Dt.app (L:=[⟨[v],0,43⟩]) h2)
 simp only [Wl] at he'
 have e0:¬k+n<0:=by omega
 simp [one,he',e0]
abbrev Yt:=List Int×List Int
def Qi:Dt (Value×Value) Yt where
 val v _:=.agg #[v.1,v.2]
 Ow H v a:=Qf.Ow H v.1 a.1∧Qf.Ow H v.2 a.2
 ids v:=VM.ids v.1++VM.ids v.2
 frame h k:=⟨Qf.frame h.1 fun i hi=>k i (List.mem_append.2 (.inl hi)),Qf.frame h.2 fun i hi=>k i (List.mem_append.2 (.inr hi))⟩
 lt h i hi:=by
  rcases List.mem_append.1 hi with hi|hi
  ·exact Qf.lt h.1 i hi
  ·exact Qf.lt h.2 i hi
theorem Wz (v:Value×Value) (a:Yt):Qi.val v a=.agg #[v.1,v.2]:=rfl
theorem W6 {v:Value×Value} {a:Yt} (h:Qi.Ow H v a):(VM.one v.1=true∧v.1.cells=#[v.1])∧VM.one v.2=true∧v.2.cells=#[v.2]:=⟨⟨h.1.1.rd.one',h.1.1.rd.cells⟩,h.2.1.rd.one',h.2.1.rd.cells⟩
theorem jh {a b:Value×Value} {x y:Yt} (ha:Qi.Ow H a x) (hb:Qi.Ow H b y):Qh C frz 82 [Qi.val a x,Qi.val b y] H=some (.bool (decide (x=y)),H):=by
 obtain ⟨x1,x2⟩:=x;obtain ⟨y1,y2⟩:=y;obtain ⟨a1,a2⟩:=a;obtain ⟨b1,b2⟩:=b
 rw [Wz,Wz]
 rw [Qb (fn:=Tryz.f82) Tryz.func82 rfl (by kernel_rfl) rfl]
 have one:=And.intro (W6 ha) (W6 hb)
 have e1:=fun F L=>Co (frz:=F) (H:=H++L) (a:=a1) (b:=b1) (x:=x1) (y:=y1) (Dt.app (T:=Qf) ha.1) (Dt.app (T:=Qf) hb.1)
 have e2:=fun F L=>Co (frz:=F) (H:=H++L) (a:=a2) (b:=b2) (x:=x2) (y:=y2) (Dt.app (T:=Qf) ha.2) (Dt.app (T:=Qf) hb.2)
 simp only [Wx] at e1 e2
 simp at one
 simp [one,e1]
 refine Q7 _ ?_ ?_<;>intro h0<;>simp [h0,one,e2]
 refine Q7 _ ?_ ?_<;>intro h0<;>simp [h0]
theorem Dv {v:Value×Value} {a:Yt} {k:Int} (h:Qi.Ow H v a) (hd:(Qi.ids v).Nodup) (hk:0≤k∧k≤2305843009213693952) (hf:∀i∈Qi.ids v,frz≤i) :
 wp (Qh C frz 86 [Qi.val v a,.int .i64 k] H) (Marks 2147483648 Qi 89 H v a k):=by
 obtain ⟨a1,a2⟩:=a;obtain ⟨v1,v2⟩:=v
 rw [Qb (fn:=Tryz.f86) Tryz.func86 rfl (by kernel_rfl) rfl]
 rw [Wz]
 have one:=W6 h
 simp only at one
 obtain ⟨h1,h2⟩:=h
 simp only at h1 h2
 obtain ⟨d1,d2,d3⟩:=List.nodup_append.1 hd
 have dis:∀i∈VM.ids v2,i∉VM.ids v1:=fun i hi hh=>d3 i hh i hi rfl
 have dis':∀i∈VM.ids v1,i∉VM.ids v2:=fun i hi hh=>d3 i hi i hh rfl
 have lt1:=Qf.lt h1
 have lt2:=Qf.lt h2
 simp [one]
 have m1:=Ir (frz:=frz) (k:=k) (H:=H++[⟨[v1,v2],0,45⟩]) (v:=v1) (a:=a1) (Dt.app (T:=Qf) h1) d1 (by omega) (fun i hi=>hf i (List.mem_append.2 (.inl hi)))
 simp only [Wx] at m1
 refine Ql m1 ?_
 rintro _ H1 ⟨n1,b1,rfl,hn1,_,o1,c1,he1⟩
 have bx:H1[H.length]? = some ⟨[v1,v2],0,45⟩:=Qa (by simp) c1 (fun hh=>by have:=lt1 _ hh;omega)
 have o2:=Dt.chg (T:=Qf) (Dt.app (T:=Qf) h2) c1 dis
 simp [VM.look,bx,one]
 have m2:=Ir (frz:=frz) (k:=k+n1) (H:=H1) (v:=v2) (a:=a2) o2 d2 (by omega) (fun i hi=>hf i (List.mem_append.2 (.inr hi)))
 simp only [Wx] at m2
 refine Ql m2 ?_
 rintro _ H2 ⟨n2,b2,rfl,hn2,_,o2',c2,he2⟩
 simp
 refine ⟨n1+n2,(b1,b2),by rw [Int.add_assoc],by omega,rfl,⟨Dt.chg (T:=Qf) o1 c2 dis',o2'⟩,?_,fun F H3 h3=>?_⟩
 ·refine ((Qp.app (Qi.ids (v1,v2))).trans' (c1.mono fun i hi=>List.mem_append.2 (.inl hi)) (fun i hi=>.inl hi)).trans' (c2.mono fun i hi=>List.mem_append.2 (.inr hi)) (fun i hi=>.inl hi)
 ·rw [Qb (fn:=Tryz.f89) Tryz.func89 rfl (by kernel_rfl) rfl]
  rw [Wz]
  have g1:=fun F=>he1 F (H3++[⟨[v1,v2],0,45⟩]) (Dt.app (T:=Qf) h3.1)
  have g2:=fun F=>he2 F (H3++[⟨[v1,v2],0,45⟩]) (Dt.app (T:=Qf) h3.2)
  simp only [Wx] at g1 g2
  have e0:¬k+n1<0:=by omega
  have e1:¬k+n1+n2<0:=by omega
  simp [one,g1,e0,g2,e1,Int.add_assoc]
  simp [← Int.add_assoc,e1]
theorem wr (v1 v2:Value) (A B:List Int) (n:Int) (h1:W7 H v1 A) (h2:W7 H v2 B) (h0:0≤n) (hn:n≤1048576) (l1:A.length≤9223372036854775807) (l2:B.length≤9223372036854775807) :
 Qh C frz 53 [.agg #[v1,v2],.int .i64 n] H=some (.int .i64 (if n<(A.length:Int)+(B.length:Int) then -1 else n-((A.length:Int)+(B.length:Int))),H):=by
 rw [Qb (fn:=Tryz.f53) Tryz.func53 rfl (by kernel_rfl) rfl]
 have one:=And.intro (And.intro h1.one' h1.cells) (And.intro h2.one' h2.cells)
 simp [one,C2 _ _ _ (h1.app _) h0 hn (by omega)]
 by_cases g:n<(A.length:Int)
 ·simp [g];omega
 ·have g2:¬n-(A.length:Int)<0:=by omega
  simp [g,g2,one,C2 _ _ _ (h2.app _) (by omega:0≤n-(A.length:Int)) (by omega) (by omega)]
  by_cases g3:n-(A.length:Int)<(B.length:Int)
  ·simp [g3];omega
  ·have g4:¬n-(A.length:Int)-(B.length:Int)<0:=by omega
   simp [g3,g4]
   rw [if_neg (by omega)];omega
theorem jq (v1 v2:Value) (A B:List Int) (h1:W7 H v1 A) (h2:W7 H v2 B) (l1:A.length≤1073741824) (l2:B.length≤1073741824) :
 wp (Qh C frz 72 [.agg #[v1,v2]] H) (Qi.Made H (A,B)):=by
 rw [Qb (fn:=Tryz.f72) Tryz.func72 rfl (by kernel_rfl) rfl]
 have one:=And.intro (And.intro h1.one' h1.cells) (And.intro h2.one' h2.cells)
 simp [one]
 refine Ql (Bc v1 A (h1.app _) l1) ?_
 rintro _ H1 ⟨u1,rfl,o1,c1,n1,d1⟩
 have b0:H1[H.length]? = some ⟨[v1,v2],0,30⟩:=Qa (by simp) c1 (by simp)
 have bR:H1[H.length+1]? = some ⟨[.slice none 0 0,.slice none 0 0],0,45⟩:=Qa (by simp) c1 (by simp)
 have b1:H1[H.length+2]? = some ⟨[.slice none 0 0,.slice none 0 0],0,45⟩:=Qa (by simp) c1 (by simp)
 have lc:=c1.1
 simp at n1 lc
 have onu:=Xc o1
 have hF:H.length≤H.length+2:=by omega
 have hF1:H.length≤H.length+1:=by omega
 have e1:Qp H1 (H1.set (H.length+2) ⟨[u1,.slice none 0 0],0,45⟩) [H.length+2]:=Qn _ _
 have cH1:Qp H (H1.set (H.length+2) ⟨[u1,.slice none 0 0],0,45⟩) []:=((Qp.app []).trans c1).trans' e1 (fun i hi=>.inr (by simp at hi;omega))
 have p1:=Qq (r':=⟨[u1,.slice none 0 0],0,45⟩) b1
 have p0:=Qa b0 e1 (by simp)
 have pR:=Qa bR e1 (by simp)
 have o1':=Dt.chg (T:=Wu) o1 e1 (fun i hi hh=>by have:=n1 i hi;simp at hh;omega)
 simp [Wx,VM.look,b0,b1,onu,one,hF]
 generalize H1.set (H.length+2) ⟨[u1,.slice none 0 0],0,45⟩=H2 at *
 try simp [VM.look,p0,one]
 refine Ql (Bc v2 B (Rd.isI (h2.rd.chg cH1 (by simp))) l2) ?_
 rintro _ H3 ⟨u2,rfl,o2,c2,n2,d2⟩
 have b1:=Qa p1 c2 (by simp)
 have bR:=Qa pR c2 (by simp)
 have l2':=cH1.1
 have lu:=Wu.lt o1'
 have Qcb:=Xc o2
 have o3:=Dt.chg0 (T:=Wu) o1' c2
 have e2:Qp H3 (H3.set (H.length+2) ⟨[u1,u2],0,45⟩) [H.length+2]:=Qn _ _
 have g1:=Qq (r':=⟨[u1,u2],0,45⟩) b1
 have bR:=Qa bR e2 (by simp)
 have hlt:=Wj p1
 have o4:=Dt.chg (T:=Wu) o3 e2 (fun i hi hh=>by have:=n1 i hi;simp at hh;omega)
 have o5:=Dt.chg (T:=Wu) o2 e2 (fun i hi hh=>by have:=n2 i hi;simp at hh;omega)
 have cH4:=(cH1.trans c2).trans' e2 (fun i hi=>.inr (by simp at hi;omega))
 simp [Wx,VM.look,b1,onu,Qcb,hF]
 generalize H3.set (H.length+2) ⟨[u1,u2],0,45⟩=H4 at *
 have gR:=Qq (r':=⟨[u1,u2],0,45⟩) bR
 simp [VM.look,g1,bR,onu,Qcb,hF1,gR]
 refine ⟨(u1,u2),rfl,⟨Dt.chg (T:=Wu) o4 (Qn _ _) (fun i hi hh=>by have:=n1 i hi;simp at hh;omega),Dt.chg (T:=Wu) o5 (Qn _ _) (fun i hi hh=>by have:=n2 i hi;simp at hh;omega)⟩,cH4.trans' (Qn _ _) (fun i hi=>.inr (by simp at hi;omega)),fun i hi=>?_,?_⟩
 ·rcases List.mem_append.1 hi with hi|hi
  ·have:=n1 i hi;omega
  ·have:=n2 i hi;omega
 ·exact List.nodup_append.2 ⟨d1,d2,fun a ha b hb e=>by have:=lu a ha;have:=n2 b hb;omega⟩
abbrev Q9:=Int×Int×Int×Bool×Bool
def Yh:Fl Q9:=⟨5,fun a=>[.int .i64 a.1,.int .i64 a.2.1,.int .i64 a.2.2.1,.bool a.2.2.2.1,.bool a.2.2.2.2],fun _=>rfl⟩
@[simp] theorem Ty:Yh.n=5:=rfl
theorem Xp (a:Q9):Yh.f a=[.int .i64 a.1,.int .i64 a.2.1,.int .i64 a.2.2.1,.bool a.2.2.2.1,.bool a.2.2.2.2]:=rfl
abbrev knF:=Kn.pair (Kn.int .i64) (Kn.pair (Kn.int .i64) (Kn.pair (Kn.int .i64) (Kn.pair Kn.bool Kn.bool)))
theorem Qao {H:Qd} {x:Q9} {vs:List Value} (h:knF.Is H x vs):vs=Yh.f x:=by
 obtain ⟨v1,v2,rfl,h1,w1,w2,rfl,h2,y1,y2,rfl,h3,z1,z2,rfl,h4,h5⟩:=h
 simp only [Kn.int,Kn.bool] at h1 h2 h3 h4 h5
 rw [h1,h2,h3,h4,h5];rfl
theorem Do {α:Type} {D:Fl α}:∀(xs:List α) (l:List Value),(∀j x,xs[j]? = some x→(l.drop (j*D.n)).take D.n=D.f x)→l.take (xs.length*D.n)=cellsOf D xs
 | [],l,_=>by simp
 | x::xs,l,h=>by
  have h0:=h 0 x rfl
  simp at h0
  have h1:=Do xs (l.drop D.n) fun j y hj=>by
   have:=h (j+1) y (by simpa using hj)
   rwa [Nat.succ_mul,Nat.add_comm,← List.drop_drop] at this
  rw [List.length_cons,Nat.succ_mul,Nat.add_comm,List.take_add,h0,h1,Ye]
theorem Pn.rd_of {α:Type} {d:Kn α} {D:Fl α} (hz:d.sz=D.n) (hd:∀{H x vs},d.Is H x vs→vs=D.f x) {v:Value} {xs:List α} (h:Pn d H v xs):Rd D H v xs:=by
 rcases h with h|⟨id,off,r,h1,h2,h3,h4⟩
 ·exact .inl h
 ·rw [hz] at h3 h4
  exact .inr ⟨id,off,r,h1,h2,Do xs _ fun j x hj=>by rw [List.drop_drop];exact hd (h4 j x hj),h3⟩
theorem Pn.rdL_of {α:Type} {d:Kn α} {D:Fl α} (hd:∀{v xs},Pn d H v xs→Rd D H v xs) {v:Value} {xss:List (List α)} (h:Pn (Kn.slice d) H v xss):∃hs,To D H v hs xss:=by
 rcases h with ⟨rfl,rfl⟩|⟨id,off,r,h1,h2,h3,h4⟩
 ·exact ⟨[],.inl ⟨rfl,rfl⟩,rfl,by simp⟩
 ·have hz:(Kn.slice d).sz=1:=rfl
  rw [hz] at h3 h4
  simp only [Nat.mul_one] at h3 h4
  have hl:((r.cells.drop off).take xss.length).length=xss.length:=by simp;omega
  refine ⟨(r.cells.drop off).take xss.length,.inr ⟨id,off,r,by rw [hl];exact h1,h2,by rw [hl,yp];simp,by rw [hl];simpa using h3⟩,hl,fun j a xs ha hx=>?_⟩
  obtain ⟨u,hu,hs⟩:=h4 j xs hx
  have hj:=(List.getElem?_eq_some_iff.1 hx).1
  have e2:=congrArg (·[0]?) hu
  simp at e2
  rw [List.getElem?_take,if_pos hj,List.getElem?_drop,e2] at ha
  cases ha
  exact hd hs
theorem Uh {α:Type} {D:Fl α} (a:α):∀n,(List.replicate n (D.f a)).flatten=cellsOf D (List.replicate n a)
 | 0=>rfl
 | n+1=>by rw [List.replicate_succ,List.replicate_succ,List.flatten_cons,Ye,Uh a n]
theorem Re (xs:List Q9):ones (cellsOf Yh xs)=true:=by
 induction xs with
 | nil=>rfl
 | cons a l ih=>rw [Ye];simp [ih,Xp]
theorem Wr {P:Program} {H:Qd} {s:TypeId} {f:Nat} (a:Addr):Qy P H s f (.pointer (some a))=match VM.look H a with
 | some _=>(match Wp P s f with|some (o,_,_)=>some (.pointer (some ⟨a.block,a.off+o,a.spot⟩))|none=>none)
 | none=>none:=rfl
theorem Gt {α:Type} (xs:List α) (z:α) {i:Nat} (h:i<xs.length):(xs.take i++List.replicate (xs.length-i) z).set i xs[i]=xs.take (i+1)++List.replicate (xs.length-(i+1)) z:=by
 rw [List.set_append_right _ _ (by simp;omega),List.take_succ_eq_append_getElem h]
 have e:xs.length-i=(xs.length-(i+1))+1:=by omega
 have e2:i-(xs.take i).length=0:=by simp;omega
 rw [e,List.replicate_succ,e2,List.set_cons_zero,List.append_assoc];rfl
theorem Qg1 (x:Q9):Qh C frz 168 [.agg (Yh.f x).toArray] H=some (.agg (Yh.f x).toArray,H):=by
 obtain ⟨p,t,c,h,l⟩:=x
 rw [Qb (fn:=Tryz.f168) Tryz.func168 rfl (by kernel_rfl) rfl]
 simp [Xp]
theorem Qcd (v:Value) (xs:List Q9) (hI:Rd Yh H v xs) (hb:xs.length≤1073741824) :
 wp (Qh C frz 125 [v] H) (fun r H'=>Ow Yh 148 H' r xs∧(∀i∈ids r,H.length≤i)∧Qp H H' []):=by
 rw [Qb (fn:=Tryz.f125) Tryz.func125 rfl (by kernel_rfl) rfl]
 simp [hI.len]
 refine Xt (by omega) ?_
 refine Qw (fun n t H'=>∃i:Nat,n=xs.length-i∧i≤xs.length∧t 0=v∧t 3=.slice (some ⟨H.length,0,some 0⟩) xs.length 0∧t 4=.int .i64 i∧
  Ow Yh 148 H' (.slice (some ⟨H.length,0,some 0⟩) xs.length 0) (xs.take i++List.replicate (xs.length-i) (0,0,0,false,false))∧Qp H H' []) ?_ (n:=xs.length)
  ⟨0,by simp,by omega,by simp,by simp,by simp,Ow.new0 rfl (Uh (D:=Yh) (0,0,0,false,false) _) (by rw [Uh (D:=Yh) (0,0,0,false,false)];exact Re _) (by simp),Qp.app _⟩
 rintro n t H' ⟨i,rfl,hi,h0,h3,h4,o,c⟩ ih
 have rd:=hI.chg c (by simp)
 simp [h0,h3,h4,rd.len]
 refine Qm ?_ ?_<;>intro h
 ·have h':i<xs.length:=by omega
  have q1:=rd.idx (P:=Tryz.prog) (ty:=139) (e:=197) (by simp) (i:=(i:Int)) (by omega) (by omega)
  have q2:=rd.load (P:=Tryz.prog) (e:=197) (by simp) h'
  have hl:(xs.take i++List.replicate (xs.length-i) ((0,0,0,false,false):Q9)).length=xs.length:=by simp;omega
  have q3:=o.rd.idx (P:=Tryz.prog) (ty:=145) (e:=148) (by simp) (i:=(i:Int)) (by omega) (by omega)
  obtain ⟨H2,s1,o1,c1,l1⟩:=o.store (P:=Tryz.prog) (frz:=H.length) (et:=148) (ag:=true) (x:=.agg (Yh.f xs[i]).toArray) (by simp) (j:=i) (y:=xs[i]) (by omega) (by simp [Value.cells]) (by simp [Xp]) (by simp)
  simp only [Int.toNat_natCast,Ty] at q1 q2 q3 s1
  simp [h0,h3,h4,q1,q2,Qg1,q3,s1]
  refine ih (xs.length-(i+1)) _ _ ⟨i+1,rfl,by omega,by simp [h0],by simp [h3],?_,?_,c.trans' c1 (by simp)⟩ (by omega)
  ·simp;rw [Q0 (by omega) (by omega)]
  ·rw [Gt _ _ h'] at o1;exact o1
 ·have:i=xs.length:=by omega
  subst this
  simp [h0,h3,h4]
  exact ⟨by simpa using o,c⟩
theorem Qcn (v:Value) (xs:List Q9) (n:Int) (hI:Rd Yh H v xs) (h0:0≤n) (h1:n≤1048576) (h2:xs.length≤9223372036854775807) :
 Qh C frz 98 [v,.int .i64 n] H=some (.int .i64 (if n<xs.length then -1 else n-xs.length),H):=by
 rw [Qb (fn:=Tryz.f98) Tryz.func98 rfl (by kernel_rfl) rfl]
 simp [hI.len]
 rw [Q0 (by omega) (by omega)]
 refine Q7 _ ?_ ?_<;>intro h<;>simp [h]
 ·intro hh;omega
 ·intro hh;omega
theorem Qd8 (x y:Q9):Qh C frz 185 [.agg (Yh.f x).toArray,.agg (Yh.f y).toArray] H=some (.bool (decide (x=y)),H):=by
 obtain ⟨p,t,c,h,l⟩:=x
 obtain ⟨p',t',c',h',l'⟩:=y
 rw [Qb (fn:=Tryz.f185) Tryz.func185 rfl (by kernel_rfl) rfl]
 simp [Xp]
 by_cases e1:p=p'
 ·by_cases e2:t=t'
  ·by_cases e3:c=c'
   ·cases h<;>cases h'<;>cases l<;>cases l'<;>simp [e1,e2,e3]
   ·simp [e1,e2,e3]
  ·simp [e1,e2]
 ·simp [e1]
theorem Qdh (a b:Value) (xs ys:List Q9) (ha:Rd Yh H a xs) (hb:Rd Yh H b ys) (hl:xs.length≤1073741824) :
 Qh C frz 149 [a,b] H=some (.bool (decide (xs=ys)),H):=by
 refine wp.exact (by simp) ?_ rfl
 rw [Qb (fn:=Tryz.f149) Tryz.func149 rfl (by kernel_rfl) rfl]
 simp [ha.len,hb.len]
 refine Qm ?_ ?_<;>intro h0<;>simp [h0]
 ·refine Qw (fun n t H'=>∃i:Nat,n=xs.length-i∧i≤xs.length∧t 0=a∧t 1=b∧t 5=.int .i64 i∧H'=H∧xs.take i=ys.take i) ?_ (n:=xs.length) ⟨0,rfl,by omega,by simp,by simp,by simp,rfl,by simp⟩
  rintro n t H' ⟨i,rfl,hi,h1,h2,h3,rfl,h4⟩ ih
  simp [h1,h2,h3,ha.len]
  refine Qm ?_ ?_<;>intro h
  ·have hx:i<xs.length:=by omega
   have hy:i<ys.length:=by omega
   have q1:=ha.idx (P:=Tryz.prog) (ty:=145) (e:=148) (by simp) (i:=(i:Int)) (by omega) (by omega)
   have q2:=ha.load (P:=Tryz.prog) (e:=148) (by simp) hx
   have q3:=hb.idx (P:=Tryz.prog) (ty:=145) (e:=148) (by simp) (i:=(i:Int)) (by omega) (by omega)
   have q4:=hb.load (P:=Tryz.prog) (e:=148) (by simp) hy
   simp only [Int.toNat_natCast,Ty] at q1 q2 q3 q4
   simp [h1,h2,h3]
   rw [Qv (h:=by kernel_rfl)]
   simp [h1,h2,h3,q1,q2,q3,q4,Qd8]
   refine Qm ?_ ?_<;>intro h5
   ·simp [h1,h2,h3]
    refine ih (xs.length-(i+1)) _ _ ⟨i+1,rfl,by omega,by simp [h1],by simp [h2],?_,rfl,?_⟩ (by omega)
    ·simp;rw [Q0 (by omega) (by omega)]
    ·rw [List.take_succ_eq_append_getElem hx,List.take_succ_eq_append_getElem hy,h4];simp [h5]
   ·simp [h1,h2,h3]
    intro hh;subst hh;simp at h5
  ·have:i=xs.length:=by omega
   subst this
   simp [h1,h2,h3]
   rw [List.take_length,List.take_of_length_le (by omega)] at h4
   exact h4
 ·intro hh;exact h0 (by rw [hh])
abbrev X9:=List (List Q9)
abbrev I5:=Value×List Value
def Qt:Dt I5 X9 where
 val v _:=v.1
 Ow H v a:=Cp Yh 148 145 H v.1 v.2 a∧a.length≤2097152∧∀xs∈a,xs.length≤67108864
 ids v:=T5 v.1 v.2
 frame h k:=⟨h.1.frame k,h.2⟩
 lt h:=h.1.lt
def R3 (xss:X9):Nat:=xss.length+(xss.map List.length).sum
theorem zh {α:Type} (xss:List (List α)) {i:Nat} (h:i<xss.length):((xss.take (i+1)).map List.length).sum=((xss.take i).map List.length).sum+xss[i].length:=by
 rw [List.take_succ_eq_append_getElem h,List.map_append,List.sum_append];simp
theorem zy {α:Type} (xss:List (List α)) (i:Nat):((xss.take i).map List.length).sum≤(xss.map List.length).sum:=by
 conv=>rhs;rw [← List.take_append_drop i xss,List.map_append,List.sum_append]
 omega
theorem Fe {α:Type} (xss:List (List α)):∀xs∈xss,xs.length≤(xss.map List.length).sum:=by
 induction xss with
 | nil=>simp
 | cons a l ih=>
  intro xs hx;rcases List.mem_cons.1 hx with rfl|hx
  ·simp
  ·have:=ih xs hx;simp;omega
theorem Xi {α:Type} {D:Fl α} {v:Value} {hs:List Value} {xss:List (List α)} (h:To D H v hs xss) {ty e:TypeId} (he:Ze Tryz.prog ty=some (e,1)) (ht:tsz Tryz.prog e=some (false,1)) {j:Nat} (hj:j<xss.length) :
 ∃a,hs[j]? = some a∧Q6 Tryz.prog H ty v (.int .i64 j)=some (Yi v j)∧Xh Tryz.prog H e (Yi v j)=some a∧Rd D H a xss[j]:=by
 have hj':j<hs.length:=by rw [h.2.1];exact hj
 have q1:=h.1.idx (P:=Tryz.prog) (ty:=ty) (e:=e) (by simpa using he) (i:=(j:Int)) (by omega) (by omega)
 have q2:=h.1.cell1 (P:=Tryz.prog) rfl ht hj'
 refine ⟨hs[j],by simp [hj'],by simpa using q1,by simpa using q2,h.2.2 j _ _ (by simp [hj']) (by simp [hj])⟩
theorem Yr {l m:List Nat} {n:Nat} (h1:l.Nodup) (h2:m.Nodup) (h3:∀i∈l,i<n) (h4:∀i∈m,n≤i):(l++m).Nodup:=
 List.nodup_append.2 ⟨h1,h2,fun a ha b hb e=>by have:=h3 a ha;have:=h4 b hb;omega⟩
theorem Ll (v:Value) (hs:List Value) (xss:X9) (n:Int) (hI:To Yh H v hs xss) (h0:0≤n) (h1:n≤1048576) (h2:xss.length≤9223372036854775807) (h3:∀xs∈xss,xs.length≤9223372036854775807) :
 Qh C frz 54 [v,.int .i64 n] H=some (.int .i64 (if n<R3 xss then -1 else n-R3 xss),H):=by
 refine wp.exact (by simp) ?_ rfl
 rw [Qb (fn:=Tryz.f54) Tryz.func54 rfl (by kernel_rfl) rfl]
 have hl:=hI.2.1
 have ht:R3 xss=xss.length+(xss.map List.length).sum:=rfl
 simp [hI.1.len,hl]
 rw [Q0 (by omega) (by omega)]
 refine Qm ?_ ?_<;>intro h
 ·simp [h]
  omega
 ·simp [h]
  refine Qw (fun m t H'=>∃(i:Nat) (q:Nat),m=xss.length-i∧i≤xss.length∧t 0=v∧t 1=.int .i64 (n-xss.length-q)∧t 5=.int .i64 i∧H'=H∧q=((xss.take i).map List.length).sum∧0≤n-xss.length-q) ?_ (n:=xss.length) ⟨0,0,rfl,by omega,by simp,by simp,by simp,rfl,by simp,by omega⟩
  rintro m t H' ⟨i,q,rfl,hi,t0,t1,t5,rfl,hq,hq0⟩ ih
  simp [t0,t1,t5,hI.1.len,hl]
  refine Qm ?_ ?_<;>intro g
  ·have hi':i<xss.length:=by omega
   obtain ⟨a,a1,a2,a3,a4⟩:=Xi hI (ty:=31) (e:=139) (by simp) (by simp) hi'
   have sz:=fun F=>Qcn (frz:=F) a xss[i] (n-xss.length-q) a4 hq0 (by omega) (h3 _ (List.getElem_mem hi'))
   have st:=zh xss hi'
   have sl:=zy xss (i+1)
   rw [← hq] at st
   simp [t0,t1,t5,a2,a3,sz]
   by_cases h5:n-xss.length-(q:Int)<(xss[i].length:Int)
   ·simp [h5]
    omega
   ·have h6:¬n-xss.length-(q:Int)-(xss[i].length:Int)<0:=by omega
    simp [t0,t1,t5,h5,h6]
    refine ih (xss.length-(i+1)) _ _ ⟨i+1,q+xss[i].length,rfl,by omega,by simp [t0],?_,?_,rfl,by omega,by omega⟩ (by omega)
    ·simp;omega
    ·simp;rw [Q0 (by omega) (by omega)]
  ·have:i=xss.length:=by omega
   subst this
   rw [List.take_length] at hq
   simp [t0,t1,t5]
   rw [if_neg (by omega),ht];omega
theorem Mt (v:Value) (hs:List Value) (xss:X9) (hI:To Yh H v hs xss) (hb:xss.length≤2097152) (hb2:∀xs∈xss,xs.length≤67108864) :
 wp (Qh C frz 73 [v] H) (Qt.Made H xss):=by
 rw [Qb (fn:=Tryz.f73) Tryz.func73 rfl (by kernel_rfl) rfl]
 have hl:=hI.2.1
 simp [hI.1.len,hl]
 refine Xt (by omega) ?_
 refine Qw (fun n t H'=>∃(i:Nat) (gs:List Value),n=xss.length-i∧i≤xss.length∧t 0=v∧t 3=.slice (some ⟨H.length,0,some 0⟩) xss.length 0∧t 4=.int .i64 i∧gs.length=i∧
  Ow Fl.val 145 H' (.slice (some ⟨H.length,0,some 0⟩) xss.length 0) (gs++List.replicate (xss.length-i) (.slice none 0 0))∧Qp H H' []∧
  (∀(j:Nat) (a:Value) (xs:List Q9),gs[j]? = some a→xss[j]? = some xs→Ow Yh 148 H' a xs)∧(∀x∈gs.flatMap ids,H.length+1≤x∧x<H'.length)∧(gs.flatMap ids).Nodup) ?_ (n:=xss.length)
  ⟨0,[],by simp,by omega,by simp,by simp,by simp,rfl,Ow.new0 rfl (by simp [Uh (D:=Fl.val) (.slice none 0 0)]) (by simp [ones]) (by simp),Qp.app _,by simp,by simp,by simp⟩
 rintro n t H' ⟨i,gs,rfl,hi,h0,h3,h4,hgl,o,c,hin,hids,hnd⟩ ih
 have rd:=hI.chg c (by simp)
 have l0:=c.1
 have lo:=o.lt H.length (by simp)
 simp [h0,h3,h4,rd.1.len,hl]
 refine Qm ?_ ?_<;>intro h
 ·have h':i<xss.length:=by omega
  obtain ⟨a,a1,a2,a3,a4⟩:=Xi rd (ty:=31) (e:=139) (by simp) (by simp) h'
  simp [h0,h3,h4,a2,a3]
  refine Ql (Qcd a xss[i] a4 (by have:=hb2 _ (List.getElem_mem h');omega)) ?_
  rintro r H1 ⟨or_,nr,c1⟩
  have o':=o.chg c1 (by simp)
  have hll:(gs++List.replicate (xss.length-i) (Value.slice none 0 0)).length=xss.length:=by simp;omega
  have q3:=o'.rd.idx (P:=Tryz.prog) (ty:=46) (e:=145) (by simp) (i:=(i:Int)) (by omega) (by omega)
  have lr:=or_.lt
  obtain ⟨H2,s1,o1,c2,l2⟩:=o'.put1 (P:=Tryz.prog) (frz:=H.length) rfl (et:=145) (ag:=false) (x:=r) (by simp) (j:=i) (y:=r) (by omega) or_.rd.cells or_.rd.one' rfl (by simp)
  simp only [Int.toNat_natCast,Fl.val_n,Nat.mul_one] at q3
  have one:=And.intro or_.rd.one' or_.rd.cells
  have l1:=c1.1
  simp [h0,h3,h4,q3,s1]
  have e1:(gs++List.replicate (xss.length-i) (Value.slice none 0 0)).set i r=(gs++[r])++List.replicate (xss.length-(i+1)) (Value.slice none 0 0):=by
   have e:xss.length-i=(xss.length-(i+1))+1:=by omega
   rw [List.set_append_right _ _ (by omega),e,List.replicate_succ,show i-gs.length=0 by omega,List.set_cons_zero];simp
  rw [e1] at o1
  refine ih (xss.length-(i+1)) _ _ ⟨i+1,gs++[r],rfl,by omega,by simp [h0],by simp [h3],?_,by simp [hgl],o1,(c.trans c1).trans' c2 (by simp),fun j a xs ha hx=>?_,fun x hx=>?_,?_⟩ (by omega)
  ·simp;rw [Q0 (by omega) (by omega)]
  ·by_cases hj:j<gs.length
   ·rw [List.getElem?_append_left hj] at ha
    have ho:=(hin j a xs ha hx).chg c1 (by simp)
    refine ho.chg c2 (fun y hy hh=>?_)
    have:=hids y (List.mem_flatMap.2 ⟨a,List.mem_of_getElem? ha,hy⟩)
    simp at hh;omega
   ·rw [List.getElem?_append_right (by omega)] at ha
    have hj2:=(List.getElem?_eq_some_iff.1 ha).1
    simp at hj2
    have:j=i:=by omega
    subst this
    rw [show j-gs.length=0 by omega] at ha
    simp at ha
    subst ha
    rw [List.getElem?_eq_getElem h'] at hx
    cases hx
    exact or_.chg c2 (fun y hy hh=>by have:=nr y hy;simp at hh;omega)
  ·rw [List.flatMap_append] at hx
   rcases List.mem_append.1 hx with hx|hx
   ·have:=hids x hx;omega
   ·simp at hx
    have:=nr x hx;have:=lr x hx;omega
  ·rw [List.flatMap_append]
   refine Yr hnd (by simpa using Wa r) (n:=H'.length) (fun x hx=>(hids x hx).2) (fun x hx=>?_)
   simp at hx;exact nr x hx
 ·have:i=xss.length:=by omega
  subst this
  simp [h0,h3,h4]
  refine ⟨(.slice (some ⟨H.length,0,some 0⟩) xss.length 0,gs),rfl,⟨⟨by simpa using o,hgl,hin⟩,hb,hb2⟩,c,fun x hx=>?_,?_⟩
  ·rcases List.mem_append.1 hx with hx|hx
   ·simp at hx;omega
   ·have:=hids x hx;omega
  ·refine Yr (Wa _) hnd (n:=H.length+1) (by simp) (fun x hx=>(hids x hx).1)
theorem Qas (a b:Value) (hs gs:List Value) (xs ys:X9) (ha:To Yh H a hs xs) (hb:To Yh H b gs ys) (hl:xs.length≤1073741824) (hl2:∀l∈xs,l.length≤1073741824) :
 Qh C frz 83 [a,b] H=some (.bool (decide (xs=ys)),H):=by
 refine wp.exact (by simp) ?_ rfl
 rw [Qb (fn:=Tryz.f83) Tryz.func83 rfl (by kernel_rfl) rfl]
 have la:=ha.2.1
 have lb:=hb.2.1
 simp [ha.1.len,hb.1.len,la,lb]
 refine Qm ?_ ?_<;>intro h0<;>simp [h0]
 ·refine Qw (fun n t H'=>∃i:Nat,n=xs.length-i∧i≤xs.length∧t 0=a∧t 1=b∧t 5=.int .i64 i∧H'=H∧xs.take i=ys.take i) ?_ (n:=xs.length) ⟨0,rfl,by omega,by simp,by simp,by simp,rfl,by simp⟩
  rintro n t H' ⟨i,rfl,hi,h1,h2,h3,rfl,h4⟩ ih
  simp [h1,h2,h3,ha.1.len,la]
  refine Qm ?_ ?_<;>intro h
  ·have hx:i<xs.length:=by omega
   have hy:i<ys.length:=by omega
   obtain ⟨p,_,a2,a3,a4⟩:=Xi ha (ty:=46) (e:=145) (by simp) (by simp) hx
   obtain ⟨q,_,b2,b3,b4⟩:=Xi hb (ty:=46) (e:=145) (by simp) (by simp) hy
   have eq:=fun F=>Qdh (frz:=F) p q xs[i] ys[i] a4 b4 (hl2 _ (List.getElem_mem hx))
   simp [h1,h2,h3]
   rw [Qv (h:=by kernel_rfl)]
   simp [h1,h2,h3,a2,a3,b2,b3,eq]
   refine Qm ?_ ?_<;>intro h5
   ·simp [h1,h2,h3]
    refine ih (xs.length-(i+1)) _ _ ⟨i+1,rfl,by omega,by simp [h1],by simp [h2],?_,rfl,?_⟩ (by omega)
    ·simp;rw [Q0 (by omega) (by omega)]
    ·rw [List.take_succ_eq_append_getElem hx,List.take_succ_eq_append_getElem hy,h4];simp [h5]
   ·simp [h1,h2,h3]
    intro hh;subst hh;simp at h5
  ·have:i=xs.length:=by omega
   subst this
   simp [h1,h2,h3]
   rw [List.take_length,List.take_of_length_le (by omega)] at h4
   exact h4
 ·intro hh;exact h0 (by rw [hh])
theorem Lh {a b:I5} {x y:X9} (ha:Qt.Ow H a x) (hb:Qt.Ow H b y):Qh C frz 83 [a.1,b.1] H=some (.bool (decide (x=y)),H):=
 Qas a.1 b.1 a.2 b.2 x y ha.1.rd hb.1.rd (by have:=ha.2.1;omega) (fun l hl=>by have:=ha.2.2 l hl;omega)
def jo {V A W B:Type} (T:Dt V A) (U:Dt W B):Dt (V×W) (A×B) where
 val _ _:=undef
 Ow H v a:=T.Ow H v.1 a.1∧U.Ow H v.2 a.2
 ids v:=T.ids v.1++U.ids v.2
 frame h k:=⟨T.frame h.1 fun i hi=>k i (List.mem_append.2 (.inl hi)),U.frame h.2 fun i hi=>k i (List.mem_append.2 (.inr hi))⟩
 lt h i hi:=by
  rcases List.mem_append.1 hi with hi|hi
  ·exact T.lt h.1 i hi
  ·exact U.lt h.2 i hi
def Qbk (A:Type):Dt Unit A where
 val _ _:=undef
 Ow _ _ _:=True
 ids _:=[]
 frame _ _:=trivial
 lt _ i hi:=by simp at hi
abbrev Qu:=Df×Yt×X9×List Int×List Int×X9×X9×Int
noncomputable instance:DecidableEq Qu:=fun _ _=>Classical.propDecidable _
abbrev Wo:=Value×(Value×Value)×I5×Value×Value×I5×I5×Unit
def Qop:Dt Wo Qu:=jo Qx (jo Qi (jo Qt (jo Qf (jo Qf (jo Qt (jo Qt (Qbk Int)))))))
def Yp (v:Wo) (a:Qu):Value:=
 .agg #[.int .i64 a.1.1,.int .i64 a.1.2.1,v.1,v.2.1.1,v.2.1.2,v.2.2.1.1,v.2.2.2.1,v.2.2.2.2.1,v.2.2.2.2.2.1.1,v.2.2.2.2.2.2.1.1,.int .i64 a.2.2.2.2.2.2.2]
def Qe:Dt Wo Qu:={ Qop with val:=Yp }
theorem Qk (v:Wo) (a:Qu):Qe.val v a =
 .agg #[.int .i64 a.1.1,.int .i64 a.1.2.1,v.1,v.2.1.1,v.2.1.2,v.2.2.1.1,v.2.2.2.1,v.2.2.2.2.1,v.2.2.2.2.2.1.1,v.2.2.2.2.2.2.1.1,.int .i64 a.2.2.2.2.2.2.2]:=rfl
theorem Va {v:I5} {a:X9} (h:Qt.Ow H v a):VM.one v.1=true∧v.1.cells=#[v.1]:=⟨h.1.1.rd.one',h.1.1.rd.cells⟩
theorem Qr {v:Wo} {a:Qu} (h:Qe.Ow H v a):(VM.one v.1=true∧v.1.cells=#[v.1])∧(VM.one v.2.1.1=true∧v.2.1.1.cells=#[v.2.1.1])∧(VM.one v.2.1.2=true∧v.2.1.2.cells=#[v.2.1.2])∧(VM.one v.2.2.1.1=true∧v.2.2.1.1.cells=#[v.2.2.1.1])∧
 (VM.one v.2.2.2.1=true∧v.2.2.2.1.cells=#[v.2.2.2.1])∧(VM.one v.2.2.2.2.1=true∧v.2.2.2.2.1.cells=#[v.2.2.2.2.1])∧(VM.one v.2.2.2.2.2.1.1=true∧v.2.2.2.2.2.1.1.cells=#[v.2.2.2.2.2.1.1])∧(VM.one v.2.2.2.2.2.2.1.1=true∧v.2.2.2.2.2.2.1.1.cells=#[v.2.2.2.2.2.2.1.1]):=by
 obtain ⟨h1,h2,h3,h4,h5,h6,h7,_⟩:=h
 exact ⟨Zs h1,(W6 h2).1,(W6 h2).2,Va h3,Zt h4,Zt h5,Va h6,Va h7⟩
theorem Vg (xss:X9):xss.length≤R3 xss:=by unfold R3;omega
theorem Vh (xss:X9):∀x∈xss,x.length≤R3 xss:=fun x hx=>by have:=Fe xss x hx;unfold R3;omega
theorem Qhs {a b:Wo} {x y:Qu} (ha:Qe.Ow H a x) (hb:Qe.Ow H b y):Qh C frz 37 [Qe.val a x,Qe.val b y] H=some (.bool (decide (x=y)),H):=by
 have oa:=Qr ha
 have ob:=Qr hb
 obtain ⟨a1,⟨a2,a3⟩,⟨a4,ha4⟩,a5,a6,⟨a7,ha7⟩,⟨a8,ha8⟩,_⟩:=a
 obtain ⟨b1,⟨b2,b3⟩,⟨b4,hb4⟩,b5,b6,⟨b7,hb7⟩,⟨b8,hb8⟩,_⟩:=b
 obtain ⟨⟨w,h,x1⟩,⟨x2,x3⟩,x4,x5,x6,x7,x8,tm⟩:=x
 obtain ⟨⟨w',h',y1⟩,⟨y2,y3⟩,y4,y5,y6,y7,y8,tm'⟩:=y
 obtain ⟨h1,h2,h3,h4,h5,h6,h7,_⟩:=ha
 obtain ⟨k1,k2,k3,k4,k5,k6,k7,_⟩:=hb
 simp only at h1 h2 h3 h4 h5 h6 h7 k1 k2 k3 k4 k5 k6 k7
 obtain ⟨p1,p2,p3,p4,p5,p6,p7,p8⟩:=oa
 obtain ⟨q1,q2,q3,q4,q5,q6,q7,q8⟩:=ob
 simp only at p1 p2 p3 p4 p5 p6 p7 p8 q1 q2 q3 q4 q5 q6 q7 q8
 have e1:=fun F L=>Qfz (frz:=F) (H:=H++L) (Dt.app h1) (Dt.app k1)
 have e2:=fun F L=>jh (frz:=F) (H:=H++L) (Dt.app h2) (Dt.app k2)
 have e3:=fun F L=>Lh (frz:=F) (H:=H++L) (Dt.app h3) (Dt.app k3)
 have e4:=fun F L=>Na (frz:=F) (H:=H++L) (Dt.app h4) (Dt.app k4)
 have e5:=fun F L=>Na (frz:=F) (H:=H++L) (Dt.app h5) (Dt.app k5)
 have e6:=fun F L=>Lh (frz:=F) (H:=H++L) (Dt.app h6) (Dt.app k6)
 have e7:=fun F L=>Lh (frz:=F) (H:=H++L) (Dt.app h7) (Dt.app k7)
 simp only [W5,Wz] at e1 e2
 simp only at e3 e6 e7
 rw [Qk,Qk]
 refine wp.exact (by simp) ?_ rfl
 rw [Qb (fn:=Tryz.f37) Tryz.func37 rfl (by kernel_rfl) rfl]
 simp [p1,p2,p3,p4,p5,p6,p7,p8,q1,q2,q3,q4,q5,q6,q7,q8,e1,-Prod.mk.injEq]
 refine Qm ?_ ?_<;>intro g1<;>simp [g1,p1,p2,p3,p4,p5,p6,p7,p8,q1,q2,q3,q4,q5,q6,q7,q8,e2,-Prod.mk.injEq]
 refine Qm ?_ ?_<;>intro g2<;>simp [g2,p1,p2,p3,p4,p5,p6,p7,p8,q1,q2,q3,q4,q5,q6,q7,q8,e3,-Prod.mk.injEq]
 refine Qm ?_ ?_<;>intro g3<;>simp [g3,p1,p2,p3,p4,p5,p6,p7,p8,q1,q2,q3,q4,q5,q6,q7,q8,e4,-Prod.mk.injEq]
 refine Qm ?_ ?_<;>intro g4<;>simp [g4,p1,p2,p3,p4,p5,p6,p7,p8,q1,q2,q3,q4,q5,q6,q7,q8,e5,-Prod.mk.injEq]
 refine Qm ?_ ?_<;>intro g5<;>simp [g5,p1,p2,p3,p4,p5,p6,p7,p8,q1,q2,q3,q4,q5,q6,q7,q8,e6,-Prod.mk.injEq]
 refine Qm ?_ ?_<;>intro g6<;>simp [g6,p1,p2,p3,p4,p5,p6,p7,p8,q1,q2,q3,q4,q5,q6,q7,q8,e7,-Prod.mk.injEq]
 refine Qm ?_ ?_<;>intro g7<;>simp [g7,p1,p2,p3,p4,p5,p6,p7,p8,q1,q2,q3,q4,q5,q6,q7,q8,e7,-Prod.mk.injEq]
 ·refine Qm ?_ ?_<;>intro g8<;>simp [g8]
 ·exact fun hh=>g7 (congrArg (fun z:Qu=>z.2.2.2.2.2.2.1) hh)
 ·exact fun hh=>g6 (congrArg (fun z:Qu=>z.2.2.2.2.2.1) hh)
 ·exact fun hh=>g5 (congrArg (fun z:Qu=>z.2.2.2.2.1) hh)
 ·exact fun hh=>g4 (congrArg (fun z:Qu=>z.2.2.2.1) hh)
 ·exact fun hh=>g3 (congrArg (fun z:Qu=>z.2.2.1) hh)
 ·exact fun hh=>g2 (congrArg (fun z:Qu=>z.2.1) hh)
 ·exact fun hh=>g1 (congrArg (fun z:Qu=>z.1) hh)
theorem Qig (w h tm:Int) (u2 u3 u4 u5 u6 u7 u8 u9:Value) (h5 h8 h9:List Value) (b A B own turn:List Int) (buf src arr:X9)
 (r2:Rd Fl.int H u2 b) (r3:Rd Fl.int H u3 A) (r4:Rd Fl.int H u4 B) (r5:To Yh H u5 h5 buf) (r6:Rd Fl.int H u6 own) (r7:Rd Fl.int H u7 turn) (r8:To Yh H u8 h8 src) (r9:To Yh H u9 h9 arr)
 (l2:b.length≤1073741824) (l3:A.length≤1073741824) (l4:B.length≤1073741824) (l5:buf.length≤2097152) (l5':∀x∈buf,x.length≤67108864) (l6:own.length≤1073741824) (l7:turn.length≤1073741824)
 (l8:src.length≤2097152) (l8':∀x∈src,x.length≤67108864) (l9:arr.length≤2097152) (l9':∀x∈arr,x.length≤67108864) :
 wp (Qh C frz 31 [.agg #[.int .i64 w,.int .i64 h,u2,u3,u4,u5,u6,u7,u8,u9,.int .i64 tm]] H) (Qe.Made H ((w,h,b),(A,B),buf,own,turn,src,arr,tm)):=by
 rw [Qb (fn:=Tryz.f31) Tryz.func31 rfl (by kernel_rfl) rfl]
 have Wi:=And.intro r2.one' r2.cells
 have Xz:=And.intro r3.one' r3.cells
 have Zg:=And.intro r4.one' r4.cells
 have Zw:=And.intro r5.1.one' r5.1.cells
 have Uc:=And.intro r6.one' r6.cells
 have Z7:=And.intro r7.one' r7.cells
 have Ub:=And.intro r8.1.one' r8.1.cells
 have Z6:=And.intro r9.1.one' r9.1.cells
 have hF:H.length≤H.length+2:=by omega
 have hF1:H.length≤H.length+1:=by omega
 simp [Wi,Xz,Zg,Zw,Uc,Z7,Ub,Z6]
 obtain ⟨G0,hG0⟩:∃G,G=H++[⟨[.int .i64 w,.int .i64 h,u2,u3,u4,u5,u6,u7,u8,u9,.int .i64 tm],0,33⟩,⟨[.int .i64 0,.int .i64 0,.slice none 0 0,.slice none 0 0,.slice none 0 0,.slice none 0 0,.slice none 0 0,.slice none 0 0,.slice none 0 0,.slice none 0 0,.int .i64 0],0,48⟩,⟨[.int .i64 0,.int .i64 0,.slice none 0 0,.slice none 0 0,.slice none 0 0,.slice none 0 0,.slice none 0 0,.slice none 0 0,.slice none 0 0,.slice none 0 0,.int .i64 0],0,48⟩]:=⟨_,rfl⟩
 have b0:G0[H.length]? = some ⟨[.int .i64 w,.int .i64 h,u2,u3,u4,u5,u6,u7,u8,u9,.int .i64 tm],0,33⟩:=by rw [hG0];simp
 have bR:G0[H.length+1]? = some ⟨[.int .i64 0,.int .i64 0,.slice none 0 0,.slice none 0 0,.slice none 0 0,.slice none 0 0,.slice none 0 0,.slice none 0 0,.slice none 0 0,.slice none 0 0,.int .i64 0],0,48⟩:=by rw [hG0];simp
 have b1:G0[H.length+2]? = some ⟨[.int .i64 0,.int .i64 0,.slice none 0 0,.slice none 0 0,.slice none 0 0,.slice none 0 0,.slice none 0 0,.slice none 0 0,.slice none 0 0,.slice none 0 0,.int .i64 0],0,48⟩:=by rw [hG0];simp
 have cH:Qp H G0 []:=by rw [hG0];exact Qp.app []
 have lH:H.length+3≤G0.length:=by rw [hG0];simp
 rw [← hG0]
 clear hG0
 refine Ql (Qg2 w h u2 b (Rd.isI (r2.chg cH (by simp))) l2) ?_
 rintro _ K1 ⟨n1,rfl,o1,c1,m1,d1⟩
 have q1:=Zs o1
 have lt1:=Qx.lt o1
 have b0:=Qa b0 c1 (by simp)
 have b1:=Qa b1 c1 (by simp)
 have bR:=Qa bR c1 (by simp)
 have cH:=cH.trans c1
 have lc1:=c1.1
 have e1:Qp K1 (K1.set (H.length+2) ⟨[.int .i64 w,.int .i64 h,n1,.slice none 0 0,.slice none 0 0,.slice none 0 0,.slice none 0 0,.slice none 0 0,.slice none 0 0,.slice none 0 0,.int .i64 0],0,48⟩) [H.length+2]:=Qn _ _
 have g1:=Qq (r':=⟨[.int .i64 w,.int .i64 h,n1,.slice none 0 0,.slice none 0 0,.slice none 0 0,.slice none 0 0,.slice none 0 0,.slice none 0 0,.slice none 0 0,.int .i64 0],0,48⟩) b1
 have b0':=Qa b0 e1 (by simp)
 have bR:=Qa bR e1 (by simp)
 have o1:=Dt.chg (T:=Qx) o1 e1 (fun i hi hh=>by have:=m1 i hi;simp at hh;omega)
 have cH:=cH.trans' e1 (fun i hi=>.inr (by simp at hi;omega))
 have ls1:(K1.set (H.length+2) ⟨[.int .i64 w,.int .i64 h,n1,.slice none 0 0,.slice none 0 0,.slice none 0 0,.slice none 0 0,.slice none 0 0,.slice none 0 0,.slice none 0 0,.int .i64 0],0,48⟩).length=K1.length:=by simp
 simp [W5,VM.look,b0,b1,Wi,Xz,Zg,Zw,Uc,Z7,Ub,Z6,q1,hF]
 generalize K1.set (H.length+2) ⟨[.int .i64 w,.int .i64 h,n1,.slice none 0 0,.slice none 0 0,.slice none 0 0,.slice none 0 0,.slice none 0 0,.slice none 0 0,.slice none 0 0,.int .i64 0],0,48⟩=G1 at *
 clear b0 b1
 have b0:=b0'
 have b1:=g1
 clear b0' g1 e1
 try simp [VM.look,b0,Wi,Xz,Zg,Zw,Uc,Z7,Ub,Z6]
 refine Ql (jq u3 u4 A B (Rd.isI (r3.chg cH (by simp))) (Rd.isI (r4.chg cH (by simp))) l3 l4) ?_
 rintro _ K2 ⟨n2,rfl,o2,c2,m2,d2⟩
 have q2:=W6 o2
 have lt2:=Qi.lt o2
 have b0:=Qa b0 c2 (by simp)
 have b1:=Qa b1 c2 (by simp)
 have bR:=Qa bR c2 (by simp)
 have o1:=Dt.chg0 (T:=Qx) o1 c2
 have cH:=cH.trans c2
 have lc2:=c2.1
 have e2:Qp K2 (K2.set (H.length+2) ⟨[.int .i64 w,.int .i64 h,n1,n2.1,n2.2,.slice none 0 0,.slice none 0 0,.slice none 0 0,.slice none 0 0,.slice none 0 0,.int .i64 0],0,48⟩) [H.length+2]:=Qn _ _
 have g2:=Qq (r':=⟨[.int .i64 w,.int .i64 h,n1,n2.1,n2.2,.slice none 0 0,.slice none 0 0,.slice none 0 0,.slice none 0 0,.slice none 0 0,.int .i64 0],0,48⟩) b1
 have b0':=Qa b0 e2 (by simp)
 have bR:=Qa bR e2 (by simp)
 have o1:=Dt.chg (T:=Qx) o1 e2 (fun i hi hh=>by have:=m1 i hi;simp at hh;omega)
 have o2:=Dt.chg (T:=Qi) o2 e2 (fun i hi hh=>by have:=m2 i hi;simp at hh;omega)
 have cH:=cH.trans' e2 (fun i hi=>.inr (by simp at hi;omega))
 have ls2:(K2.set (H.length+2) ⟨[.int .i64 w,.int .i64 h,n1,n2.1,n2.2,.slice none 0 0,.slice none 0 0,.slice none 0 0,.slice none 0 0,.slice none 0 0,.int .i64 0],0,48⟩).length=K2.length:=by simp
 simp [Wz,VM.look,b0,b1,Wi,Xz,Zg,Zw,Uc,Z7,Ub,Z6,q1,q2,hF]
 generalize K2.set (H.length+2) ⟨[.int .i64 w,.int .i64 h,n1,n2.1,n2.2,.slice none 0 0,.slice none 0 0,.slice none 0 0,.slice none 0 0,.slice none 0 0,.int .i64 0],0,48⟩=G2 at *
 clear b0 b1
 have b0:=b0'
 have b1:=g2
 clear b0' g2 e2
 try simp [VM.look,b0,Wi,Xz,Zg,Zw,Uc,Z7,Ub,Z6]
 refine Ql (Mt u5 h5 buf (r5.chg cH (by simp)) l5 l5') ?_
 rintro _ K3 ⟨n3,rfl,o3,c3,m3,d3⟩
 have q3:=Va o3
 have lt3:=Qt.lt o3
 have b0:=Qa b0 c3 (by simp)
 have b1:=Qa b1 c3 (by simp)
 have bR:=Qa bR c3 (by simp)
 have o1:=Dt.chg0 (T:=Qx) o1 c3
 have o2:=Dt.chg0 (T:=Qi) o2 c3
 have cH:=cH.trans c3
 have lc3:=c3.1
 have e3:Qp K3 (K3.set (H.length+2) ⟨[.int .i64 w,.int .i64 h,n1,n2.1,n2.2,n3.1,.slice none 0 0,.slice none 0 0,.slice none 0 0,.slice none 0 0,.int .i64 0],0,48⟩) [H.length+2]:=Qn _ _
 have g3:=Qq (r':=⟨[.int .i64 w,.int .i64 h,n1,n2.1,n2.2,n3.1,.slice none 0 0,.slice none 0 0,.slice none 0 0,.slice none 0 0,.int .i64 0],0,48⟩) b1
 have b0':=Qa b0 e3 (by simp)
 have bR:=Qa bR e3 (by simp)
 have o1:=Dt.chg (T:=Qx) o1 e3 (fun i hi hh=>by have:=m1 i hi;simp at hh;omega)
 have o2:=Dt.chg (T:=Qi) o2 e3 (fun i hi hh=>by have:=m2 i hi;simp at hh;omega)
 have o3:=Dt.chg (T:=Qt) o3 e3 (fun i hi hh=>by have:=m3 i hi;simp at hh;omega)
 have cH:=cH.trans' e3 (fun i hi=>.inr (by simp at hi;omega))
 have ls3:(K3.set (H.length+2) ⟨[.int .i64 w,.int .i64 h,n1,n2.1,n2.2,n3.1,.slice none 0 0,.slice none 0 0,.slice none 0 0,.slice none 0 0,.int .i64 0],0,48⟩).length=K3.length:=by simp
 simp [show Qt.val n3 buf=n3.1 from rfl,VM.look,b0,b1,Wi,Xz,Zg,Zw,Uc,Z7,Ub,Z6,q1,q2,q3,hF]
 generalize K3.set (H.length+2) ⟨[.int .i64 w,.int .i64 h,n1,n2.1,n2.2,n3.1,.slice none 0 0,.slice none 0 0,.slice none 0 0,.slice none 0 0,.int .i64 0],0,48⟩=G3 at *
 clear b0 b1
 have b0:=b0'
 have b1:=g3
 clear b0' g3 e3
 try simp [VM.look,b0,Wi,Xz,Zg,Zw,Uc,Z7,Ub,Z6]
 refine Ql (xe u6 own (Rd.isI (r6.chg cH (by simp))) l6) ?_
 rintro w4 K4 ⟨n4,hr4,o4,c4,m4,d4⟩
 have hw4:n4=w4:=hr4.symm
 subst hw4
 have q4:=Zt o4
 have lt4:=Qf.lt o4
 have b0:=Qa b0 c4 (by simp)
 have b1:=Qa b1 c4 (by simp)
 have bR:=Qa bR c4 (by simp)
 have o1:=Dt.chg0 (T:=Qx) o1 c4
 have o2:=Dt.chg0 (T:=Qi) o2 c4
 have o3:=Dt.chg0 (T:=Qt) o3 c4
 have cH:=cH.trans c4
 have lc4:=c4.1
 have e4:Qp K4 (K4.set (H.length+2) ⟨[.int .i64 w,.int .i64 h,n1,n2.1,n2.2,n3.1,n4,.slice none 0 0,.slice none 0 0,.slice none 0 0,.int .i64 0],0,48⟩) [H.length+2]:=Qn _ _
 have g4:=Qq (r':=⟨[.int .i64 w,.int .i64 h,n1,n2.1,n2.2,n3.1,n4,.slice none 0 0,.slice none 0 0,.slice none 0 0,.int .i64 0],0,48⟩) b1
 have b0':=Qa b0 e4 (by simp)
 have bR:=Qa bR e4 (by simp)
 have o1:=Dt.chg (T:=Qx) o1 e4 (fun i hi hh=>by have:=m1 i hi;simp at hh;omega)
 have o2:=Dt.chg (T:=Qi) o2 e4 (fun i hi hh=>by have:=m2 i hi;simp at hh;omega)
 have o3:=Dt.chg (T:=Qt) o3 e4 (fun i hi hh=>by have:=m3 i hi;simp at hh;omega)
 have o4:=Dt.chg (T:=Qf) o4 e4 (fun i hi hh=>by have:=m4 i hi;simp at hh;omega)
 have cH:=cH.trans' e4 (fun i hi=>.inr (by simp at hi;omega))
 have ls4:(K4.set (H.length+2) ⟨[.int .i64 w,.int .i64 h,n1,n2.1,n2.2,n3.1,n4,.slice none 0 0,.slice none 0 0,.slice none 0 0,.int .i64 0],0,48⟩).length=K4.length:=by simp
 simp [W5,VM.look,b0,b1,Wi,Xz,Zg,Zw,Uc,Z7,Ub,Z6,q1,q2,q3,q4,hF]
 generalize K4.set (H.length+2) ⟨[.int .i64 w,.int .i64 h,n1,n2.1,n2.2,n3.1,n4,.slice none 0 0,.slice none 0 0,.slice none 0 0,.int .i64 0],0,48⟩=G4 at *
 clear b0 b1
 have b0:=b0'
 have b1:=g4
 clear b0' g4 e4
 try simp [VM.look,b0,Wi,Xz,Zg,Zw,Uc,Z7,Ub,Z6]
 refine Ql (xe u7 turn (Rd.isI (r7.chg cH (by simp))) l7) ?_
 rintro w5 K5 ⟨n5,hr5,o5,c5,m5,d5⟩
 have hw5:n5=w5:=hr5.symm
 subst hw5
 have q5:=Zt o5
 have lt5:=Qf.lt o5
 have b0:=Qa b0 c5 (by simp)
 have b1:=Qa b1 c5 (by simp)
 have bR:=Qa bR c5 (by simp)
 have o1:=Dt.chg0 (T:=Qx) o1 c5
 have o2:=Dt.chg0 (T:=Qi) o2 c5
 have o3:=Dt.chg0 (T:=Qt) o3 c5
 have o4:=Dt.chg0 (T:=Qf) o4 c5
 have cH:=cH.trans c5
 have lc5:=c5.1
 have e5:Qp K5 (K5.set (H.length+2) ⟨[.int .i64 w,.int .i64 h,n1,n2.1,n2.2,n3.1,n4,n5,.slice none 0 0,.slice none 0 0,.int .i64 0],0,48⟩) [H.length+2]:=Qn _ _
 have g5:=Qq (r':=⟨[.int .i64 w,.int .i64 h,n1,n2.1,n2.2,n3.1,n4,n5,.slice none 0 0,.slice none 0 0,.int .i64 0],0,48⟩) b1
 have b0':=Qa b0 e5 (by simp)
 have bR:=Qa bR e5 (by simp)
 have o1:=Dt.chg (T:=Qx) o1 e5 (fun i hi hh=>by have:=m1 i hi;simp at hh;omega)
 have o2:=Dt.chg (T:=Qi) o2 e5 (fun i hi hh=>by have:=m2 i hi;simp at hh;omega)
 have o3:=Dt.chg (T:=Qt) o3 e5 (fun i hi hh=>by have:=m3 i hi;simp at hh;omega)
 have o4:=Dt.chg (T:=Qf) o4 e5 (fun i hi hh=>by have:=m4 i hi;simp at hh;omega)
 have o5:=Dt.chg (T:=Qf) o5 e5 (fun i hi hh=>by have:=m5 i hi;simp at hh;omega)
 have cH:=cH.trans' e5 (fun i hi=>.inr (by simp at hi;omega))
 have ls5:(K5.set (H.length+2) ⟨[.int .i64 w,.int .i64 h,n1,n2.1,n2.2,n3.1,n4,n5,.slice none 0 0,.slice none 0 0,.int .i64 0],0,48⟩).length=K5.length:=by simp
 simp [W5,VM.look,b0,b1,Wi,Xz,Zg,Zw,Uc,Z7,Ub,Z6,q1,q2,q3,q4,q5,hF]
 generalize K5.set (H.length+2) ⟨[.int .i64 w,.int .i64 h,n1,n2.1,n2.2,n3.1,n4,n5,.slice none 0 0,.slice none 0 0,.int .i64 0],0,48⟩=G5 at *
 clear b0 b1
 have b0:=b0'
 have b1:=g5
 clear b0' g5 e5
 try simp [VM.look,b0,Wi,Xz,Zg,Zw,Uc,Z7,Ub,Z6]
 refine Ql (Mt u8 h8 src (r8.chg cH (by simp)) l8 l8') ?_
 rintro _ K6 ⟨n6,rfl,o6,c6,m6,d6⟩
 have q6:=Va o6
 have lt6:=Qt.lt o6
 have b0:=Qa b0 c6 (by simp)
 have b1:=Qa b1 c6 (by simp)
 have bR:=Qa bR c6 (by simp)
 have o1:=Dt.chg0 (T:=Qx) o1 c6
 have o2:=Dt.chg0 (T:=Qi) o2 c6
 have o3:=Dt.chg0 (T:=Qt) o3 c6
 have o4:=Dt.chg0 (T:=Qf) o4 c6
 have o5:=Dt.chg0 (T:=Qf) o5 c6
 have cH:=cH.trans c6
 have lc6:=c6.1
 have e6:Qp K6 (K6.set (H.length+2) ⟨[.int .i64 w,.int .i64 h,n1,n2.1,n2.2,n3.1,n4,n5,n6.1,.slice none 0 0,.int .i64 0],0,48⟩) [H.length+2]:=Qn _ _
 have g6:=Qq (r':=⟨[.int .i64 w,.int .i64 h,n1,n2.1,n2.2,n3.1,n4,n5,n6.1,.slice none 0 0,.int .i64 0],0,48⟩) b1
 have b0':=Qa b0 e6 (by simp)
 have bR:=Qa bR e6 (by simp)
 have o1:=Dt.chg (T:=Qx) o1 e6 (fun i hi hh=>by have:=m1 i hi;simp at hh;omega)
 have o2:=Dt.chg (T:=Qi) o2 e6 (fun i hi hh=>by have:=m2 i hi;simp at hh;omega)
 have o3:=Dt.chg (T:=Qt) o3 e6 (fun i hi hh=>by have:=m3 i hi;simp at hh;omega)
 have o4:=Dt.chg (T:=Qf) o4 e6 (fun i hi hh=>by have:=m4 i hi;simp at hh;omega)
 have o5:=Dt.chg (T:=Qf) o5 e6 (fun i hi hh=>by have:=m5 i hi;simp at hh;omega)
 have o6:=Dt.chg (T:=Qt) o6 e6 (fun i hi hh=>by have:=m6 i hi;simp at hh;omega)
 have cH:=cH.trans' e6 (fun i hi=>.inr (by simp at hi;omega))
 have ls6:(K6.set (H.length+2) ⟨[.int .i64 w,.int .i64 h,n1,n2.1,n2.2,n3.1,n4,n5,n6.1,.slice none 0 0,.int .i64 0],0,48⟩).length=K6.length:=by simp
 simp [show Qt.val n6 src=n6.1 from rfl,VM.look,b0,b1,Wi,Xz,Zg,Zw,Uc,Z7,Ub,Z6,q1,q2,q3,q4,q5,q6,hF]
 generalize K6.set (H.length+2) ⟨[.int .i64 w,.int .i64 h,n1,n2.1,n2.2,n3.1,n4,n5,n6.1,.slice none 0 0,.int .i64 0],0,48⟩=G6 at *
 clear b0 b1
 have b0:=b0'
 have b1:=g6
 clear b0' g6 e6
 try simp [VM.look,b0,Wi,Xz,Zg,Zw,Uc,Z7,Ub,Z6]
 refine Ql (Mt u9 h9 arr (r9.chg cH (by simp)) l9 l9') ?_
 rintro _ K7 ⟨n7,rfl,o7,c7,m7,d7⟩
 have q7:=Va o7
 have lt7:=Qt.lt o7
 have b0:=Qa b0 c7 (by simp)
 have b1:=Qa b1 c7 (by simp)
 have bR:=Qa bR c7 (by simp)
 have o1:=Dt.chg0 (T:=Qx) o1 c7
 have o2:=Dt.chg0 (T:=Qi) o2 c7
 have o3:=Dt.chg0 (T:=Qt) o3 c7
 have o4:=Dt.chg0 (T:=Qf) o4 c7
 have o5:=Dt.chg0 (T:=Qf) o5 c7
 have o6:=Dt.chg0 (T:=Qt) o6 c7
 have cH:=cH.trans c7
 have lc7:=c7.1
 have e7:Qp K7 (K7.set (H.length+2) ⟨[.int .i64 w,.int .i64 h,n1,n2.1,n2.2,n3.1,n4,n5,n6.1,n7.1,.int .i64 0],0,48⟩) [H.length+2]:=Qn _ _
 have g7:=Qq (r':=⟨[.int .i64 w,.int .i64 h,n1,n2.1,n2.2,n3.1,n4,n5,n6.1,n7.1,.int .i64 0],0,48⟩) b1
 have b0':=Qa b0 e7 (by simp)
 have bR:=Qa bR e7 (by simp)
 have o1:=Dt.chg (T:=Qx) o1 e7 (fun i hi hh=>by have:=m1 i hi;simp at hh;omega)
 have o2:=Dt.chg (T:=Qi) o2 e7 (fun i hi hh=>by have:=m2 i hi;simp at hh;omega)
 have o3:=Dt.chg (T:=Qt) o3 e7 (fun i hi hh=>by have:=m3 i hi;simp at hh;omega)
 have o4:=Dt.chg (T:=Qf) o4 e7 (fun i hi hh=>by have:=m4 i hi;simp at hh;omega)
 have o5:=Dt.chg (T:=Qf) o5 e7 (fun i hi hh=>by have:=m5 i hi;simp at hh;omega)
 have o6:=Dt.chg (T:=Qt) o6 e7 (fun i hi hh=>by have:=m6 i hi;simp at hh;omega)
 have o7:=Dt.chg (T:=Qt) o7 e7 (fun i hi hh=>by have:=m7 i hi;simp at hh;omega)
 have cH:=cH.trans' e7 (fun i hi=>.inr (by simp at hi;omega))
 have ls7:(K7.set (H.length+2) ⟨[.int .i64 w,.int .i64 h,n1,n2.1,n2.2,n3.1,n4,n5,n6.1,n7.1,.int .i64 0],0,48⟩).length=K7.length:=by simp
 simp [show Qt.val n7 arr=n7.1 from rfl,VM.look,b0,b1,Wi,Xz,Zg,Zw,Uc,Z7,Ub,Z6,q1,q2,q3,q4,q5,q6,q7,hF]
 generalize K7.set (H.length+2) ⟨[.int .i64 w,.int .i64 h,n1,n2.1,n2.2,n3.1,n4,n5,n6.1,n7.1,.int .i64 0],0,48⟩=G7 at *
 clear b0 b1
 have b0:=b0'
 have b1:=g7
 clear b0' g7 e7
 try simp [VM.look,b0,Wi,Xz,Zg,Zw,Uc,Z7,Ub,Z6]
 have e8:Qp G7 (G7.set (H.length+2) ⟨[.int .i64 w,.int .i64 h,n1,n2.1,n2.2,n3.1,n4,n5,n6.1,n7.1,.int .i64 tm],0,48⟩) [H.length+2]:=Qn _ _
 have g8:=Qq (r':=⟨[.int .i64 w,.int .i64 h,n1,n2.1,n2.2,n3.1,n4,n5,n6.1,n7.1,.int .i64 tm],0,48⟩) b1
 have o1:=Dt.chg (T:=Qx) o1 e8 (fun i hi hh=>by have:=m1 i hi;simp at hh;omega)
 have o2:=Dt.chg (T:=Qi) o2 e8 (fun i hi hh=>by have:=m2 i hi;simp at hh;omega)
 have o3:=Dt.chg (T:=Qt) o3 e8 (fun i hi hh=>by have:=m3 i hi;simp at hh;omega)
 have o4:=Dt.chg (T:=Qf) o4 e8 (fun i hi hh=>by have:=m4 i hi;simp at hh;omega)
 have o5:=Dt.chg (T:=Qf) o5 e8 (fun i hi hh=>by have:=m5 i hi;simp at hh;omega)
 have o6:=Dt.chg (T:=Qt) o6 e8 (fun i hi hh=>by have:=m6 i hi;simp at hh;omega)
 have o7:=Dt.chg (T:=Qt) o7 e8 (fun i hi hh=>by have:=m7 i hi;simp at hh;omega)
 have cH:=cH.trans' e8 (fun i hi=>.inr (by simp at hi;omega))
 have bR:=Qa bR e8 (by simp)
 simp [VM.look,b0,b1,hF,q1,q2,q3,q4,q5,q6,q7]
 generalize G7.set (H.length+2) ⟨[.int .i64 w,.int .i64 h,n1,n2.1,n2.2,n3.1,n4,n5,n6.1,n7.1,.int .i64 tm],0,48⟩=G8 at *
 have gR:=Qq (r':=⟨[.int .i64 w,.int .i64 h,n1,n2.1,n2.2,n3.1,n4,n5,n6.1,n7.1,.int .i64 tm],0,48⟩) bR
 have eR:Qp G8 (G8.set (H.length+1) ⟨[.int .i64 w,.int .i64 h,n1,n2.1,n2.2,n3.1,n4,n5,n6.1,n7.1,.int .i64 tm],0,48⟩) [H.length+1]:=Qn _ _
 have o1:=Dt.chg (T:=Qx) o1 eR (fun i hi hh=>by have:=m1 i hi;simp at hh;omega)
 have o2:=Dt.chg (T:=Qi) o2 eR (fun i hi hh=>by have:=m2 i hi;simp at hh;omega)
 have o3:=Dt.chg (T:=Qt) o3 eR (fun i hi hh=>by have:=m3 i hi;simp at hh;omega)
 have o4:=Dt.chg (T:=Qf) o4 eR (fun i hi hh=>by have:=m4 i hi;simp at hh;omega)
 have o5:=Dt.chg (T:=Qf) o5 eR (fun i hi hh=>by have:=m5 i hi;simp at hh;omega)
 have o6:=Dt.chg (T:=Qt) o6 eR (fun i hi hh=>by have:=m6 i hi;simp at hh;omega)
 have o7:=Dt.chg (T:=Qt) o7 eR (fun i hi hh=>by have:=m7 i hi;simp at hh;omega)
 have cH:=cH.trans' eR (fun i hi=>.inr (by simp at hi;omega))
 try simp [VM.look,g8,bR,gR,hF1,q1,q2,q3,q4,q5,q6,q7]
 refine ⟨(n1,n2,n3,n4,n5,n6,n7,()),rfl,⟨o1,o2,o3,o4,o5,o6,o7,trivial⟩,cH,fun i hi=>?_,?_⟩
 ·rcases List.mem_append.1 hi with hi|hi
  ·have:=m1 i hi;omega
  rcases List.mem_append.1 hi with hi|hi
  ·have:=m2 i hi;omega
  rcases List.mem_append.1 hi with hi|hi
  ·have:=m3 i hi;omega
  rcases List.mem_append.1 hi with hi|hi
  ·have:=m4 i hi;omega
  rcases List.mem_append.1 hi with hi|hi
  ·have:=m5 i hi;omega
  rcases List.mem_append.1 hi with hi|hi
  ·have:=m6 i hi;omega
  rcases List.mem_append.1 hi with hi|hi
  ·have:=m7 i hi;omega
  ·simp [Qbk] at hi
 ·have z7:(Qt.ids n7++[]).Nodup∧∀i∈Qt.ids n7++[],K6.length≤i:=⟨by simpa using d7,fun i hi=>by simp at hi;have:=m7 i hi;omega⟩
  have z6:(Qt.ids n6++(Qt.ids n7++[])).Nodup∧∀i∈Qt.ids n6++(Qt.ids n7++[]),K5.length≤i:=⟨Yr d6 z7.1 lt6 z7.2,fun i hi=>by rcases List.mem_append.1 hi with hi|hi;(have:=m6 i hi;omega);(have:=z7.2 i hi;omega)⟩
  have z5:(Qf.ids n5++(Qt.ids n6++(Qt.ids n7++[]))).Nodup∧∀i∈Qf.ids n5++(Qt.ids n6++(Qt.ids n7++[])),K4.length≤i:=⟨Yr d5 z6.1 lt5 z6.2,fun i hi=>by rcases List.mem_append.1 hi with hi|hi;(have:=m5 i hi;omega);(have:=z6.2 i hi;omega)⟩
  have z4:(Qf.ids n4++(Qf.ids n5++(Qt.ids n6++(Qt.ids n7++[])))).Nodup∧∀i∈Qf.ids n4++(Qf.ids n5++(Qt.ids n6++(Qt.ids n7++[]))),K3.length≤i:=⟨Yr d4 z5.1 lt4 z5.2,fun i hi=>by rcases List.mem_append.1 hi with hi|hi;(have:=m4 i hi;omega);(have:=z5.2 i hi;omega)⟩
  have z3:(Qt.ids n3++(Qf.ids n4++(Qf.ids n5++(Qt.ids n6++(Qt.ids n7++[]))))).Nodup∧∀i∈Qt.ids n3++(Qf.ids n4++(Qf.ids n5++(Qt.ids n6++(Qt.ids n7++[])))),K2.length≤i:=⟨Yr d3 z4.1 lt3 z4.2,fun i hi=>by rcases List.mem_append.1 hi with hi|hi;(have:=m3 i hi;omega);(have:=z4.2 i hi;omega)⟩
  have z2:(Qi.ids n2++(Qt.ids n3++(Qf.ids n4++(Qf.ids n5++(Qt.ids n6++(Qt.ids n7++[])))))).Nodup∧∀i∈Qi.ids n2++(Qt.ids n3++(Qf.ids n4++(Qf.ids n5++(Qt.ids n6++(Qt.ids n7++[]))))),K1.length≤i:=⟨Yr d2 z3.1 lt2 z3.2,fun i hi=>by rcases List.mem_append.1 hi with hi|hi;(have:=m2 i hi;omega);(have:=z3.2 i hi;omega)⟩
  exact Yr d1 z2.1 lt1 z2.2
theorem Qif (w h tm n:Int) (u2 u3 u4 u5 u6 u7 u8 u9:Value) (h5 h8 h9:List Value) (b A B own turn:List Int) (buf src arr:X9)
 (r2:Rd Fl.int H u2 b) (r3:Rd Fl.int H u3 A) (r4:Rd Fl.int H u4 B) (r5:To Yh H u5 h5 buf) (r6:Rd Fl.int H u6 own) (r7:Rd Fl.int H u7 turn) (r8:To Yh H u8 h8 src) (r9:To Yh H u9 h9 arr)
 (l2:b.length≤9223372036854775807) (l3:A.length≤9223372036854775807) (l4:B.length≤9223372036854775807) (l5:buf.length≤9223372036854775807) (l5':∀x∈buf,x.length≤9223372036854775807) (l6:own.length≤9223372036854775807) (l7:turn.length≤9223372036854775807)
 (l8:src.length≤9223372036854775807) (l8':∀x∈src,x.length≤9223372036854775807) (l9:arr.length≤9223372036854775807) (l9':∀x∈arr,x.length≤9223372036854775807) (h0:0≤n) (h1:n≤1048576) :
 Qh C frz 26 [.agg #[.int .i64 w,.int .i64 h,u2,u3,u4,u5,u6,u7,u8,u9,.int .i64 tm],.int .i64 n] H=some (.int .i64 (if n<(b.length:Int)+((A.length:Int)+(B.length:Int))+(R3 buf:Int)+(own.length:Int)+(turn.length:Int)+(R3 src:Int)+(R3 arr:Int) then -1 else n-((b.length:Int)+((A.length:Int)+(B.length:Int))+(R3 buf:Int)+(own.length:Int)+(turn.length:Int)+(R3 src:Int)+(R3 arr:Int))),H):=by
 refine wp.exact (by simp) ?_ rfl
 rw [Qb (fn:=Tryz.f26) Tryz.func26 rfl (by kernel_rfl) rfl]
 have Wi:=And.intro r2.one' r2.cells
 have Xz:=And.intro r3.one' r3.cells
 have Zg:=And.intro r4.one' r4.cells
 have Zw:=And.intro r5.1.one' r5.1.cells
 have Uc:=And.intro r6.one' r6.cells
 have Z7:=And.intro r7.one' r7.cells
 have Ub:=And.intro r8.1.one' r8.1.cells
 have Z6:=And.intro r9.1.one' r9.1.cells
 obtain ⟨m0,hm0⟩:∃m,m=n:=⟨_,rfl⟩
 have z0:0≤m0:=by omega
 have z1:m0≤1048576:=by omega
 rw [show (Value.int .i64 n)=.int .i64 m0 by rw [hm0]]
 simp [Wi,Xz,Zg,Zw,Uc,Z7,Ub,Z6]
 have s0:=fun F L=>Qfq (frz:=F) w h u2 b m0 (Rd.isI (r2.app (L:=L))) z0 z1 (by omega)
 simp [s0,Wi,Xz,Zg,Zw,Uc,Z7,Ub,Z6]
 by_cases g0:m0<(b.length:Int)
 ·simp only [if_pos g0];simp;intro hh;omega
 simp only [if_neg g0]
 obtain ⟨m1,hm1⟩:∃m,m=m0-(b.length:Int):=⟨_,rfl⟩
 rw [← hm1]
 have z0:0≤m1:=by omega
 have z1:m1≤1048576:=by omega
 have f1:¬m1<0:=by omega
 simp [f1,Wi,Xz,Zg,Zw,Uc,Z7,Ub,Z6]
 have s1:=fun F L=>wr (frz:=F) u3 u4 A B m1 (Rd.isI (r3.app (L:=L))) (Rd.isI (r4.app (L:=L))) z0 z1 l3 l4
 simp [s1,Wi,Xz,Zg,Zw,Uc,Z7,Ub,Z6]
 by_cases g1:m1<((A.length:Int)+(B.length:Int))
 ·simp only [if_pos g1];simp;intro hh;omega
 simp only [if_neg g1]
 obtain ⟨m2,hm2⟩:∃m,m=m1-((A.length:Int)+(B.length:Int)):=⟨_,rfl⟩
 rw [← hm2]
 have z0:0≤m2:=by omega
 have z1:m2≤1048576:=by omega
 have f2:¬m2<0:=by omega
 simp [f2,Wi,Xz,Zg,Zw,Uc,Z7,Ub,Z6]
 have s2:=fun F L=>Ll (frz:=F) u5 h5 buf m2 (r5.app (L:=L)) z0 z1 l5 l5'
 simp [s2,Wi,Xz,Zg,Zw,Uc,Z7,Ub,Z6]
 by_cases g2:m2<(R3 buf:Int)
 ·simp only [if_pos g2];simp;intro hh;omega
 simp only [if_neg g2]
 obtain ⟨m3,hm3⟩:∃m,m=m2-(R3 buf:Int):=⟨_,rfl⟩
 rw [← hm3]
 have z0:0≤m3:=by omega
 have z1:m3≤1048576:=by omega
 have f3:¬m3<0:=by omega
 simp [f3,Wi,Xz,Zg,Zw,Uc,Z7,Ub,Z6]
 have s3:=fun F L=>Kc (frz:=F) u6 own m3 (Rd.isI (r6.app (L:=L))) z0 z1 (by omega)
 simp [s3,Wi,Xz,Zg,Zw,Uc,Z7,Ub,Z6]
 by_cases g3:m3<(own.length:Int)
 ·simp only [if_pos g3];simp;intro hh;omega
 simp only [if_neg g3]
 obtain ⟨m4,hm4⟩:∃m,m=m3-(own.length:Int):=⟨_,rfl⟩
 rw [← hm4]
 have z0:0≤m4:=by omega
 have z1:m4≤1048576:=by omega
 have f4:¬m4<0:=by omega
 simp [f4,Wi,Xz,Zg,Zw,Uc,Z7,Ub,Z6]
 have s4:=fun F L=>Kc (frz:=F) u7 turn m4 (Rd.isI (r7.app (L:=L))) z0 z1 (by omega)
 simp [s4,Wi,Xz,Zg,Zw,Uc,Z7,Ub,Z6]
 by_cases g4:m4<(turn.length:Int)
 ·simp only [if_pos g4];simp;intro hh;omega
 simp only [if_neg g4]
 obtain ⟨m5,hm5⟩:∃m,m=m4-(turn.length:Int):=⟨_,rfl⟩
 rw [← hm5]
 have z0:0≤m5:=by omega
 have z1:m5≤1048576:=by omega
 have f5:¬m5<0:=by omega
 simp [f5,Wi,Xz,Zg,Zw,Uc,Z7,Ub,Z6]
 have s5:=fun F L=>Ll (frz:=F) u8 h8 src m5 (r8.app (L:=L)) z0 z1 l8 l8'
 simp [s5,Wi,Xz,Zg,Zw,Uc,Z7,Ub,Z6]
 by_cases g5:m5<(R3 src:Int)
 ·simp only [if_pos g5];simp;intro hh;omega
 simp only [if_neg g5]
 obtain ⟨m6,hm6⟩:∃m,m=m5-(R3 src:Int):=⟨_,rfl⟩
 rw [← hm6]
 have z0:0≤m6:=by omega
 have z1:m6≤1048576:=by omega
 have f6:¬m6<0:=by omega
 simp [f6,Wi,Xz,Zg,Zw,Uc,Z7,Ub,Z6]
 have s6:=fun F L=>Ll (frz:=F) u9 h9 arr m6 (r9.app (L:=L)) z0 z1 l9 l9'
 simp [s6,Wi,Xz,Zg,Zw,Uc,Z7,Ub,Z6]
 by_cases g6:m6<(R3 arr:Int)
 ·simp only [if_pos g6];simp;intro hh;omega
 simp only [if_neg g6]
 obtain ⟨m7,hm7⟩:∃m,m=m6-(R3 arr:Int):=⟨_,rfl⟩
 rw [← hm7]
 have z0:0≤m7:=by omega
 have z1:m7≤1048576:=by omega
 have f7:¬m7<0:=by omega
 simp [f7,Wi,Xz,Zg,Zw,Uc,Z7,Ub,Z6]
 rw [if_neg (by omega)];omega
theorem Qir (w h:Int) (v u:Value) (b T:List Int) (a to:Int) (hI:W7 H v b) (hT:W7 H u T) (hl:b.length≤1073741824) (hz:R0 w h b T) (ha:Y6 w h a) (hto:Y6 w h to) :
 Qh C frz 187 [.agg #[.int .i64 w,.int .i64 h,v],.agg #[u],.int .i64 a,.int .i64 to] H =
  some (.slice (some ⟨H.length,0,some 0⟩) (walk w h b T a to).length 0,H++[⟨(walk w h b T a to).map (.int .i64),0,3⟩]):=by
 rw [Qb (fn:=Tryz.f187) Tryz.func187 rfl (by kernel_rfl) rfl]
 simp [hI.one',hI.cells,hT.one',hT.cells,W8]
 have hc:=Qz w h
 refine Z2 (fun n t H'=>∃(o:List Int) (g:Nat) (x:Int) (G:Qd),n=(cnt w h).toNat+1-o.length∧t 3=.int .i64 to∧t 4=.pointer (some ⟨H.length,0,some 0⟩)∧t 5=.pointer (some ⟨H.length+1,0,some 0⟩)∧
  t 9=.slice (some ⟨H.length+2,0,some g⟩) o.length 0∧t 10=.int .i64 (cnt w h)∧t 11=.int .i64 x∧
  H'=H++⟨[.int .i64 w,.int .i64 h,v],0,42⟩::⟨[u],0,43⟩::⟨o.map (.int .i64),g,3⟩::G∧
  ((o.length≤(cnt w h).toNat∧Y6 w h x∧Rs w h b T to ((cnt w h).toNat-o.length) x o=walk w h b T a to)∨(o.length=(cnt w h).toNat+1∧walk w h b T a to=[]))) ?_
  (n:=(cnt w h).toNat+1) ⟨[],0,a,[],by simp [ha,walk]⟩
 rintro n t H' ⟨o,g,x,G,rfl,h3,h4,h5,h9,h10,h11,rfl,ho⟩ ih
 simp [h3,h4,h5,h9,h10,h11]
 refine Q7 _ ?_ ?_<;>intro hn
 ·obtain ⟨ho1,hx,hw⟩:o.length≤(cnt w h).toNat∧Y6 w h x∧Rs w h b T to ((cnt w h).toNat-o.length) x o=walk w h b T a to:=by
   rcases ho with ho|ho
   ·exact ho
   ·omega
  obtain ⟨k0,k1,k2,k3⟩:=O1 hx hto
  have hTl:=hz.2
  have e1:IntKind.i64.wrap (x*cnt w h)=x*cnt w h:=Q0 (by omega) (by omega)
  have e2:IntKind.i64.wrap (x*cnt w h+to)=x*cnt w h+to:=Q0 (by omega) (by have:=hto.2;omega)
  have q1:∀L,Q6 Tryz.prog (H++L) 24 u (.int .i64 (x*cnt w h+to))=some (Yi u (x*cnt w h+to).toNat):=fun L=>hT.idxA (e:=3) (by simp) k0 (by omega)
  have q2:∀L,Xh Tryz.prog (H++L) 3 (Yi u (x*cnt w h+to).toNat)=some (.int .i64 (Xm w h T x to)):=fun L=>hT.loadA (by simp) (by omega)
  simp [h3,h4,h5,h9,h10,h11,e1,e2,q1,q2]
  refine Q7 _ ?_ ?_<;>intro hp
  ·have hw':walk w h b T a to=if x=to then o else []:=by
    rw [← hw];cases (cnt w h).toNat-o.length<;>simp [Rs,hp]
   simp [h3,h4,h5,h9,h10,h11,hp]
   refine Q7 _ ?_ ?_<;>intro hq
   ·simp [h3,h4,h5,h9,h10,h11,hq] at hw' ⊢
    simp [hw']
   ·simp [h3,h4,h5,h9,h10,h11,hq] at hw' ⊢
    simp [hw']
  ·simp [h3,h4,h5,h9,h10,h11,hp]
   have hw0:¬Dj w h b T x to→walk w h b T a to=[]:=fun hh=>by
    rw [← hw];cases (cnt w h).toNat-o.length<;>simp [Rs,hp,hh]
   have e3:IntKind.i64.wrap (4*x)=4*x:=Q0 (by have:=hx.1;omega) (by have:=hx.2;omega)
   simp [Ws]
   refine Xs _ _ ?_ ?_<;>intro hr
   ·have e4:IntKind.i64.wrap (4*x+Xm w h T x to)=4*x+Xm w h T x to:=Q0 (by have:=hx.1;have:=hr.1;omega) (by have:=hx.2;have:=hr.2;omega)
    simp [h3,h4,h5,h9,h10,h11,hp,hr,e3,e4,O2 _ _ _ _ _ (hI.app _) hl,hI.one',hI.cells]
    refine Q7 _ ?_ ?_<;>intro hh
    ·simp [h3,h4,h5,h9,h10,h11,hp,hr,hh,e3,e4,Zy,hI.one',hI.cells]
     obtain ⟨s1,s2,s3⟩:=N4 hr hh
     refine Ys (by omega) ?_
     refine ih ((cnt w h).toNat+1-(o.length+1)) _ _ ⟨o++[4*x+Xm w h T x to],g+1,next w h x (Xm w h T x to),_,by simp,by simp [h3],by simp [h4],by simp [h5],by simp,by simp [h10],by simp,by simp;rfl,?_⟩ (by omega)
     by_cases hlt:o.length<(cnt w h).toNat
     ·refine .inl ⟨by simp;omega,s3,?_⟩
      rw [show (cnt w h).toNat-o.length=((cnt w h).toNat-(o++[4*x+Xm w h T x to]).length)+1 by simp;omega] at hw
      rw [← hw,Rs,if_neg hp,if_pos ⟨hr,hh⟩]
     ·refine .inr ⟨by simp;omega,?_⟩
      rw [show (cnt w h).toNat-o.length=0 by omega] at hw
      rw [← hw,Rs,if_neg hp]
    ·have hw2:=hw0 (fun k=>hh k.2)
     simp [h3,h4,h5,h9,h10,h11,hp,hr,hh,e3,e4,hw2]
   ·have hw2:=hw0 (fun k=>hr k.1)
    simp [h3,h4,h5,h9,h10,h11,hp,hr,hw2]
 ·have hw2:walk w h b T a to=[]:=by
   rcases ho with ho|ho
   ·omega
   ·exact ho.2
  simp [h3,h4,h5,h9,h10,h11,hn,hw2]
theorem yw (w h:Int) (v u:Value) (b T:List Int) (a to:Int) (hI:W7 H v b) (hT:W7 H u T) (hl:b.length≤1073741824) (hz:R0 w h b T) (ha:Y6 w h a) (hto:Y6 w h to) :
 Qh C frz 222 [.agg #[.int .i64 w,.int .i64 h,v],.agg #[u],.int .i64 a,.int .i64 to] H =
  some (.int .i64 (if Xa 0 (Xm w h T a to) 4 then Xm w h T a to else -1),H):=by
 rw [Qb (fn:=Tryz.f222) Tryz.func222 rfl (by kernel_rfl) rfl]
 have hc:=Qz w h
 obtain ⟨k0,k1,k2,k3⟩:=O1 ha hto
 have hTl:=hz.2
 have hc2:cnt w h*cnt w h≤16*16:=Int.mul_le_mul hc.2 hc.2 hc.1 (by omega)
 have hc3:0*0≤cnt w h*cnt w h:=Int.mul_le_mul hc.1 hc.1 (by omega) hc.1
 have e0:IntKind.i64.wrap (cnt w h*cnt w h)=cnt w h*cnt w h:=Q0 (by omega) (by omega)
 have e1:IntKind.i64.wrap (a*cnt w h)=a*cnt w h:=Q0 (by omega) (by omega)
 have e2:IntKind.i64.wrap (a*cnt w h+to)=a*cnt w h+to:=Q0 (by omega) (by have:=hto.2;omega)
 have q1:∀L,Q6 Tryz.prog (H++L) 24 u (.int .i64 (a*cnt w h+to))=some (Yi u (a*cnt w h+to).toNat):=fun L=>hT.idxA (e:=3) (by simp) k0 (by omega)
 have q2:∀L,Xh Tryz.prog (H++L) 3 (Yi u (a*cnt w h+to).toNat)=some (.int .i64 (Xm w h T a to)):=fun L=>hT.loadA (by simp) (by omega)
 simp [hI.one',hI.cells,hT.one',hT.cells,Xx,Pm _ _ _ _ (hI.app _) hl,hz.1,Wd,qt,ha,hto,e0,e1,e2,q1,q2,hT.lenA,hTl]
 try refine Q7 _ ?_ ?_<;>intro hr<;>simp [hr,q1,q2,e1,e2]
def ret (H:Qd) (xs:List Int):Value×Qd:=if xs=[] then (.slice none 0 0,H) else (.slice (some ⟨H.length,0,some 0⟩) xs.length 0,H++[⟨xs.map (.int .i64),0,3⟩])
theorem Qj6 (w h:Int) (v u:Value) (b T:List Int) (a to:Int) (hI:W7 H v b) (hT:W7 H u T) (hl:b.length≤1073741824) (hz:R0 w h b T) (ha:Y6 w h a) (hto:Y6 w h to) (hne:a≠to) :
 Qh C frz 201 [.agg #[.int .i64 w,.int .i64 h,v],.agg #[u],.int .i64 a,.int .i64 to] H=some (ret H (walk w h b T a to)):=by
 rw [Qb (fn:=Tryz.f201) Tryz.func201 rfl (by kernel_rfl) rfl]
 have hc:=Qz w h
 simp [hI.one',hI.cells,hT.one',hT.cells,Xx,Pm _ _ _ _ (hI.app _) hl,hz.1,Zm,ha,hto,hne]
 refine Z2 (fun n t H'=>∃(o:List Int) (g:Nat) (x:Int) (G:Qd),n=(cnt w h).toNat+1-o.length∧t 3=.int .i64 to∧t 4=.pointer (some ⟨H.length,0,some 0⟩)∧t 5=.pointer (some ⟨H.length+1,0,some 0⟩)∧
  t 9=.slice (some ⟨H.length+2,0,some g⟩) o.length 0∧t 10=.int .i64 x∧
  H'=H++⟨[.int .i64 w,.int .i64 h,v],0,42⟩::⟨[u],0,43⟩::⟨o.map (.int .i64),g,3⟩::G∧
  o.length≤(cnt w h).toNat∧Y6 w h x∧Rs w h b T to ((cnt w h).toNat-o.length) x o=walk w h b T a to∧(o=[]→x≠to)) ?_
  (n:=(cnt w h).toNat+1) ⟨[],0,a,[],by simp [ha,walk,hne]⟩
 rintro n t H' ⟨o,g,x,G,rfl,h3,h4,h5,h9,h10,rfl,ho1,hx,hw,hox⟩ ih
 have hpa:=fun F L=>yw (frz:=F) (H:=H++L) w h v u b T x to (hI.app _) (hT.app _) hl hz hx hto
 have hw0:Xm w h T x to≠4→¬Dj w h b T x to→walk w h b T a to=[]:=fun hp hh=>by
  rw [← hw];cases (cnt w h).toNat-o.length<;>simp [Rs,hp,hh]
 simp [h3,h4,h5,h9,h10,hI.one',hI.cells,hT.one',hT.cells,hpa]
 have hnil:walk w h b T a to=[]→(Value.slice none 0 0,H)=ret H (walk w h b T a to):=fun hh=>by rw [hh];rfl
 by_cases hr:Xa 0 (Xm w h T x to) 4
 ·have hlt:¬Xm w h T x to<0:=by have:=hr.1;omega
  simp [hr,hlt]
  refine Q7 _ ?_ ?_<;>intro hp
  ·have hw':walk w h b T a to=if x=to then o else []:=by
    rw [← hw];cases (cnt w h).toNat-o.length<;>simp [Rs,hp]
   simp [h3,h4,h5,h9,h10,hp]
   refine Q7 _ ?_ ?_<;>intro hq
   ·have hon:o≠[]:=fun hh=>hox hh hq
    rw [if_pos hq] at hw'
    simp [h3,h4,h5,h9,h10,hq,hw',ret,hon]
   ·rw [if_neg hq] at hw'
    simp [h3,h4,h5,h9,h10,hq,hw',ret]
  ·have hr3:Xa 0 (Xm w h T x to) 3:=⟨hr.1,by have:=hr.2;omega⟩
   have e3:IntKind.i64.wrap (4*x)=4*x:=Q0 (by have:=hx.1;omega) (by have:=hx.2;omega)
   have e4:IntKind.i64.wrap (4*x+Xm w h T x to)=4*x+Xm w h T x to:=Q0 (by have:=hx.1;have:=hr.1;omega) (by have:=hx.2;have:=hr.2;omega)
   simp [h3,h4,h5,h9,h10,hp,hI.one',hI.cells,e3,e4,Si _ _ _ _ _ (hI.app _) hl,hz.1]
   refine Xs _ _ ?_ ?_<;>intro hh
   ·obtain ⟨s1,s2,s3⟩:=N4 hr3 hh
    have he:=fun F L=>Kg (frz:=F) (H:=H++L) w h v b (4*x+Xm w h T x to) (hI.app _) hh.1
    rw [s1,s2] at he
    simp [h3,h4,h5,h9,h10,hp,hh,hI.one',hI.cells,e3,e4,Xx]
    refine Q7 _ ?_ ?_<;>intro hf
    ·have hwz:walk w h b T a to=[]:=by
      rw [show (cnt w h).toNat-o.length=0 by omega] at hw
      rw [← hw,Rs,if_neg hp]
     simp [h3,h4,h5,h9,h10,hp,hh,hf,hnil hwz]
    ·simp [h3,h4,h5,h9,h10,hp,hh,hf,hI.one',hI.cells,e3,e4]
     refine Ys (by omega) ?_
     simp [h3,h4,h5,h9,h10,hp,hh,hf,hI.one',hI.cells,e3,e4,he]
     refine ih ((cnt w h).toNat+1-(o.length+1)) _ _ ⟨o++[4*x+Xm w h T x to],g+1,next w h x (Xm w h T x to),_,by simp,by simp [h3],by simp [h4],by simp [h5],by simp,by simp,by simp;rfl,by simp;omega,s3,?_,by simp⟩ (by omega)
     rw [show (cnt w h).toNat-o.length=((cnt w h).toNat-(o++[4*x+Xm w h T x to]).length)+1 by simp;omega] at hw
     rw [← hw,Rs,if_neg hp,if_pos ⟨hr3,hh⟩]
   ·simp [h3,h4,h5,h9,h10,hp,hh]
    exact hnil (hw0 hp (fun hs=>hh hs.2))
 ·simp [hr]
  refine hnil (hw0 (fun hp=>hr ?_) fun hs=>hr ⟨hs.1.1,by have:=hs.1.2;omega⟩)
  rw [hp];exact ⟨by omega,by omega⟩
theorem jb (w h:Int):IntKind.i64.wrap (cnt w h*cnt w h)=cnt w h*cnt w h:=by
 have hc:=Qz w h
 have hc2:cnt w h*cnt w h≤16*16:=Int.mul_le_mul hc.2 hc.2 hc.1 (by omega)
 have hc3:0*0≤cnt w h*cnt w h:=Int.mul_le_mul hc.1 hc.1 (by omega) hc.1
 exact Q0 (by omega) (by omega)
theorem Qit (w h:Int) (v u:Value) (b T:List Int) (hI:W7 H v b) (hT:W7 H u T) (hl:b.length≤1073741824) :
 Qh C frz 186 [.agg #[.int .i64 w,.int .i64 h,v],.agg #[u]] H=some (.bool (decide (R0 w h b T)),H):=by
 rw [Qb (fn:=Tryz.f186) Tryz.func186 rfl (by kernel_rfl) rfl]
 simp [hI.one',hI.cells,hT.one',hT.cells,W8,Jp _ _ _ _ (hI.app _) hl]
 refine Xs _ _ ?_ ?_<;>intro h1<;>simp [h1,R0,hT.lenA,jb,hI.one',hI.cells,hT.one',hT.cells,W8,-Bool.decide_and]
def good (w h:Int) (b T:List Int) (a c:Nat):Prop:=((a:Int)=c→Xm w h T a a=4)∧((a:Int)≠c→walk w h b T a c≠[])
theorem Il (w h:Int) (b T:List Int):U3 w h b T↔R0 w h b T∧∀a,a<(cnt w h).toNat→∀c,c<(cnt w h).toNat→good w h b T a c:=by
 unfold U3 good
 refine and_congr Iff.rfl ⟨fun k a ha c hc=>?_,fun k a ha c hc=>?_⟩
 ·exact ⟨fun e=>(k a ha c hc).1 (by omega),fun e=>(k a ha c hc).2 (by omega)⟩
 ·exact ⟨fun e=>(k a ha c hc).1 (by omega),fun e=>(k a ha c hc).2 (by omega)⟩
theorem V6 {w h:Int} {a:Nat} (k:a<(cnt w h).toNat):Y6 w h a:=⟨by omega,by omega⟩
theorem Fz (w h:Int) (v u:Value) (b T:List Int) (hI:W7 H v b) (hT:W7 H u T) (hl:b.length≤1073741824) :
 Qh C frz 156 [.agg #[.int .i64 w,.int .i64 h,v],.agg #[u]] H=some (.bool (decide (U3 w h b T)),H):=by
 rw [Qb (fn:=Tryz.f156) Tryz.func156 rfl (by kernel_rfl) rfl]
 simp [hI.one',hI.cells,hT.one',hT.cells,W8,Qit _ _ _ _ _ _ (hI.app _) (hT.app _) hl]
 refine Q7 _ ?_ ?_<;>intro h1
 ·simp [h1,hI.one',hI.cells,hT.one',hT.cells,W8]
  have hc:=Qz w h
  have no:∀i j:Nat,i<(cnt w h).toNat→j<(cnt w h).toNat→¬good w h b T i j→¬U3 w h b T:=fun i j hi hj hg hh=>hg (((Il w h b T).1 hh).2 i hi j hj)
  refine Z2 (fun n t H'=>∃(i:Nat) (G:Qd),n=(cnt w h).toNat-i∧i≤(cnt w h).toNat∧t 2=.pointer (some ⟨H.length,0,some 0⟩)∧t 3=.pointer (some ⟨H.length+1,0,some 0⟩)∧
   t 5=.int .i64 (cnt w h)∧t 6=.int .i64 i∧H'=H++⟨[.int .i64 w,.int .i64 h,v],0,42⟩::⟨[u],0,43⟩::G∧∀a,a<i→∀c,c<(cnt w h).toNat→good w h b T a c) ?_
   (n:=(cnt w h).toNat) ⟨0,[],by simp⟩
  rintro n t H' ⟨i,G,rfl,hi,h2,h3,h5,h6,rfl,hk⟩ ih
  simp [h2,h3,h5,h6]
  refine Q7 _ ?_ ?_<;>intro hlt
  ·simp [h2,h3,h5,h6,hlt]
   refine Z2 (fun n t H'=>∃(j:Nat) (G:Qd),n=(cnt w h).toNat-j∧j≤(cnt w h).toNat∧t 2=.pointer (some ⟨H.length,0,some 0⟩)∧t 3=.pointer (some ⟨H.length+1,0,some 0⟩)∧
    t 5=.int .i64 (cnt w h)∧t 6=.int .i64 i∧t 7=.int .i64 j∧H'=H++⟨[.int .i64 w,.int .i64 h,v],0,42⟩::⟨[u],0,43⟩::G∧∀c,c<j→good w h b T i c) ?_
    (n:=(cnt w h).toNat) ⟨0,G,by simp [h2,h3,h5,h6]⟩
   clear h2 h3 h5 h6
   rintro n t H' ⟨j,G,rfl,hj,h2,h3,h5,h6,h7,rfl,hkj⟩ ih2
   simp [h2,h3,h5,h6,h7]
   refine Q7 _ ?_ ?_<;>intro hlj
   ·have ni:i<(cnt w h).toNat:=by omega
    have nj:j<(cnt w h).toNat:=by omega
    obtain ⟨k0,k1,k2,k3⟩:=O1 (V6 ni) (V6 ni)
    have hTl:=h1.2
    have e1:IntKind.i64.wrap (i*cnt w h)=i*cnt w h:=Q0 (by omega) (by omega)
    have e2:IntKind.i64.wrap (i*cnt w h+i)=i*cnt w h+i:=Q0 (by omega) (by omega)
    have q1:∀L,Q6 Tryz.prog (H++L) 24 u (.int .i64 (i*cnt w h+i))=some (Yi u (i*cnt w h+i:Int).toNat):=fun L=>hT.idxA (e:=3) (by simp) k0 (by omega)
    have q2:∀L,Xh Tryz.prog (H++L) 3 (Yi u (i*cnt w h+i:Int).toNat)=some (.int .i64 (Xm w h T i i)):=fun L=>hT.loadA (by simp) (by omega)
    have sw:=fun F L=>Qir (frz:=F) (H:=H++L) w h v u b T i j (hI.app _) (hT.app _) hl h1 (V6 ni) (V6 nj)
    have yes:=fun (t':Env) (G':Qd) (x2:t' 2=.pointer (some ⟨H.length,0,some 0⟩)) (x3:t' 3=.pointer (some ⟨H.length+1,0,some 0⟩)) (x5:t' 5=.int .i64 (cnt w h)) (x6:t' 6=.int .i64 i) (x7:t' 7=.int .i64 (j+1:Nat)) (hg:good w h b T i j)=>
     ih2 ((cnt w h).toNat-(j+1)) t' _ ⟨j+1,G',rfl,by omega,x2,x3,x5,x6,x7,rfl,fun c hc'=>by
      by_cases hcj:c<j
      ·exact hkj c hcj
      ·have:c=j:=by omega
       subst this;exact hg⟩ (by omega)
    simp [h2,h3,h5,h6,h7,hlj]
    refine Xs _ _ ?_ ?_<;>intro hij
    ·obtain rfl:i=j:=by omega
     simp [h2,h3,h5,h6,h7,hlj,e1,e2,q1,q2]
     refine Xs _ _ ?_ ?_<;>intro hp
     ·simp [h2,h3,h5,h6,h7,hlj,hp]
      refine yes _ _ (by simp [h2]) (by simp [h3]) (by simp [h5]) (by simp [h6]) ?_ ⟨fun _=>hp,fun hh=>absurd rfl hh⟩
      simp;rw [Q0 (by omega) (by omega)]
     ·simp [h2,h3,h5,h6,h7,hlj,hp]
      exact no i i ni ni (fun hg=>hp (hg.1 rfl))
    ·simp [h2,h3,h5,h6,h7,hlj,hij,hI.one',hI.cells,hT.one',hT.cells,sw]
     refine Q7 _ ?_ ?_<;>intro hp
     ·simp [h2,h3,h5,h6,h7,hlj,hp]
      exact no i j ni nj (fun hg=>hg.2 hij hp)
     ·simp [h2,h3,h5,h6,h7,hlj,hp]
      refine yes _ _ (by simp [h2]) (by simp [h3]) (by simp [h5]) (by simp [h6]) ?_ ⟨fun hh=>absurd hh hij,fun _=>hp⟩
      simp;rw [Q0 (by omega) (by omega)]
   ·have:j=(cnt w h).toNat:=by omega
    subst this
    simp [h2,h3,h5,h6,h7,hlj]
    refine ih ((cnt w h).toNat-(i+1)) _ _ ⟨i+1,G,rfl,by omega,by simp [h2],by simp [h3],by simp [h5],?_,rfl,fun a ha c hc'=>?_⟩ (by omega)
    ·simp;rw [Q0 (by omega) (by omega)]
    ·by_cases hai:a<i
     ·exact hk a hai c hc'
     ·have:a=i:=by omega
      subst this;exact hkj c hc'
  ·simp [h2,h3,h5,h6,hlt]
   have:i=(cnt w h).toNat:=by omega
   subst this
   exact (Il w h b T).2 ⟨h1,hk⟩
 ·simp [h1]
  exact fun k=>h1 k.1
theorem O7 (v:Value) (xs:List Int) (lo hi:Int) (hI:W7 H v xs) (hl:xs.length≤1073741824) :
 Qh C frz 133 [v,.int .i64 lo,.int .i64 hi] H=some (.bool (decide (∀x∈xs,Xa lo x hi)),H):=by
 rw [Qb (fn:=Tryz.f133) Tryz.func133 rfl (by kernel_rfl) rfl]
 simp [hI.len]
 refine Z2 (fun n t H'=>∃i:Nat,n=xs.length-i∧i≤xs.length∧t 1=.int .i64 lo∧t 2=.int .i64 hi∧t 9=v∧t 10=.int .i64 xs.length∧t 11=.int .i64 i∧H'=H∧∀x∈xs.take i,Xa lo x hi) ?_ (n:=xs.length) ⟨0,by simp⟩
 rintro n t H' ⟨i,rfl,hi',h1,h2,h3,h4,h5,rfl,hj⟩ ih
 simp [h1,h2,h3,h4,h5]
 refine Q7 _ ?_ ?_<;>intro h6
 ·simp [h1,h2,h3,h4,h5,h6,hI.idx,hI.load,Wh,Wd]
  refine Q7 _ ?_ ?_<;>intro h7<;>simp [h1,h2,h3,h4,h5,h6,h7]
  ·refine ih (xs.length-(i+1)) _ _ ⟨i+1,rfl,by omega,by simp [h1],by simp [h2],by simp [h3],by simp [h4],?_,rfl,fun x hx=>?_⟩ (by omega)
   ·simp;rw [Q0 (by omega) (by omega)]
   ·rw [List.take_succ_eq_append_getElem h6] at hx
    rcases List.mem_append.1 hx with hx|hx
    ·exact hj x hx
    ·rw [List.mem_singleton.1 hx];exact h7
  ·exact ⟨_,List.getElem_mem h6,h7⟩
 ·have:i=xs.length:=by omega
  subst this
  simp [h1,h2,h3,h4,h5]
  rwa [List.take_length] at hj
def Z8 (n a m:Nat):List (Nat×Nat):=((List.range m).filter (fun c=>a≠c)).map fun c=>(a,c)
def U8 (n m:Nat):List (Nat×Nat):=(List.range m).flatMap fun a=>Z8 n a n
theorem wq (n a m:Nat) (h:a=m):Z8 n a (m+1)=Z8 n a m:=by
 simp [Z8,List.range_succ,h]
theorem jv (n a m:Nat) (h:a≠m):Z8 n a (m+1)=Z8 n a m++[(a,m)]:=by
 simp [Z8,List.range_succ,h]
theorem Cd (n m:Nat):U8 n (m+1)=U8 n m++Z8 n m n:=by
 simp [U8,List.range_succ]
theorem qi {n a c:Nat}:(a,c)∈U8 n n↔a<n∧c<n∧a≠c:=by
 simp [U8,Z8]
theorem Qi1 (w h:Int) (f:Value) {Q:Value→Qd→Prop} (Inv:List (Nat×Nat)→Qd→Prop)
 (h0:Inv [] (H++[⟨[.int .i64 w,.int .i64 h],0,40⟩]))
 (hs:∀(done:List (Nat×Nat)) (a c:Nat) (H':Qd),a<(cnt w h).toNat→c<(cnt w h).toNat→a≠c→Inv done H'→wp (yg (Qh C frz) f [.int .i64 a,.int .i64 c] H') fun r H''=>(r=.bool true∧Inv (done++[(a,c)]) H'')∨(r=.bool false∧Q (.bool false) H''))
 (he:∀H',Inv (U8 (cnt w h).toNat (cnt w h).toNat) H'→Q (.bool true) H') :
 wp (Qh C frz 199 [.agg #[.int .i64 w,.int .i64 h],f] H) Q:=by
 rw [Qb (fn:=Tryz.f199) Tryz.func199 rfl (by kernel_rfl) rfl]
 have hc:=Qz w h
 simp [Xx]
 refine Qw (fun n t H'=>∃(i:Nat),n=(cnt w h).toNat-i∧i≤(cnt w h).toNat∧t 1=f∧t 5=.int .i64 (cnt w h)∧t 10=.int .i64 (cnt w h)∧t 11=.int .i64 i∧
  Inv (U8 (cnt w h).toNat i) H') ?_ (n:=(cnt w h).toNat) ⟨0,by simp [U8,h0]⟩
 rintro n t H' ⟨i,rfl,hi,h1,h5,h10,h11,hk⟩ ih
 simp [h1,h5,h10,h11]
 refine Qm ?_ ?_<;>intro hlt
 ·simp [h1,h5,h10,h11,hlt]
  refine Qw (fun n t H'=>∃(j:Nat),n=(cnt w h).toNat-j∧j≤(cnt w h).toNat∧t 1=f∧t 5=.int .i64 (cnt w h)∧t 10=.int .i64 (cnt w h)∧t 11=.int .i64 i∧t 6=.int .i64 i∧t 14=.int .i64 (cnt w h)∧t 15=.int .i64 j∧
   Inv (U8 (cnt w h).toNat i++Z8 (cnt w h).toNat i j) H') ?_ (n:=(cnt w h).toNat) ⟨0,by simp [h1,h5,h10,h11,Z8,hk]⟩
  clear h1 h5 h10 h11 hk
  rintro n t H' ⟨j,rfl,hj,h1,h5,h10,h11,h6,h14,h15,hk⟩ ih2
  simp [h1,h5,h10,h11,h6,h14,h15]
  refine Qm ?_ ?_<;>intro hlj
  ·have ni:i<(cnt w h).toNat:=by omega
   have nj:j<(cnt w h).toNat:=by omega
   have yes:=fun (t':Env) (H':Qd) (x1:t' 1=f) (x5:t' 5=.int .i64 (cnt w h)) (x10:t' 10=.int .i64 (cnt w h)) (x11:t' 11=.int .i64 i) (x6:t' 6=.int .i64 i) (x14:t' 14=.int .i64 (cnt w h)) (x15:t' 15=.int .i64 (j+1:Nat)) (hg:Inv (U8 (cnt w h).toNat i++Z8 (cnt w h).toNat i (j+1)) H')=>
    ih2 ((cnt w h).toNat-(j+1)) t' H' ⟨j+1,rfl,by omega,x1,x5,x10,x11,x6,x14,x15,hg⟩ (by omega)
   simp [h1,h5,h10,h11,h6,h14,h15,hlj]
   refine Yd ?_ ?_<;>intro hij
   ·simp [h1,h5,h10,h11,h6,h14,h15,hlj,hij]
    refine yes _ _ (by simp [h1]) (by simp [h5]) (by simp [h10]) (by simp [h11]) (by simp [h6]) (by simp [h14]) ?_ (by rw [wq _ _ _ (by omega)];exact hk)
    simp;rw [Q0 (by omega) (by omega)]
   ·simp [h1,h5,h10,h11,h6,h14,h15,hlj,hij]
    refine Ql (hs _ i j H' ni nj (by omega) hk) ?_
    rintro r H'' (⟨rfl,hq⟩|⟨rfl,hq⟩)
    ·simp [h1,h5,h10,h11,h6,h14,h15,hlj,hij]
     refine yes _ _ (by simp [h1]) (by simp [h5]) (by simp [h10]) (by simp [h11]) (by simp [h6]) (by simp [h14]) ?_ (by rw [jv _ _ _ (by omega),← List.append_assoc];exact hq)
     simp;rw [Q0 (by omega) (by omega)]
    ·simp [h1,h5,h10,h11,h6,h14,h15,hlj,hij]
     exact hq
  ·have:j=(cnt w h).toNat:=by omega
   subst this
   simp [h1,h5,h10,h11,h6,h14,h15,hlj]
   refine ih ((cnt w h).toNat-(i+1)) _ _ ⟨i+1,rfl,by omega,by simp [h1],by simp [h5],by simp [h10],?_,by rw [Cd];exact hk⟩ (by omega)
   ·simp;rw [Q0 (by omega) (by omega)]
 ·simp [h1,h5,h10,h11,hlt]
  have:i=(cnt w h).toNat:=by omega
  subst this
  exact he _ hk
theorem Qay (w h:Int) (v u:Value) (b T:List Int) (a c:Int) (r1 r2:Nat) (hI:W7 H v b) (hT:W7 H u T) (hl:b.length≤1073741824) (hz:R0 w h b T) (ha:Y6 w h a) (hto:Y6 w h c) (hne:a≠c)
 (g1:H[r1]? = some ⟨[.int .i64 w,.int .i64 h,v],0,42⟩) (g2:H[r2]? = some ⟨[u],0,43⟩) :
 Qh C frz 200 [.int .i64 a,.int .i64 c,.pointer (some ⟨r1,0,some 0⟩),.pointer (some ⟨r2,0,some 0⟩)] H=some (.bool (!decide (walk w h b T a c=[])),H):=by
 rw [Qb (fn:=Tryz.f200) Tryz.func200 rfl (by kernel_rfl) rfl]
 simp [VM.look,g1,g2,hI.one',hI.cells,hT.one',hT.cells,Qj6 _ _ _ _ _ _ _ _ hI hT hl hz ha hto hne]
 by_cases hw:walk w h b T a c=[]
 ·simp [ret,hw]
 ·have:0<(walk w h b T a c).length:=List.length_pos_iff.2 hw
  simp [ret,hw,this]
theorem Qdf (w h:Int) (v u:Value) (b T:List Int) (hI:W7 H v b) (hT:W7 H u T) (hl:b.length≤1073741824) :
 wp (Qh C frz 171 [.agg #[.int .i64 w,.int .i64 h,v],.agg #[u]] H) (fun r _=>r=.bool (decide (U3 w h b T))):=by
 rw [Qb (fn:=Tryz.f171) Tryz.func171 rfl (by kernel_rfl) rfl]
 simp [hI.one',hI.cells,hT.one',hT.cells,Xx,Pm _ _ _ _ (hI.app _) hl]
 refine Yd ?_ ?_<;>intro hm
 ·simp [hm,hT.lenA,jb]
  refine Qm ?_ ?_<;>intro hz
  ·simp [hz]
   have hs:R0 w h b T:=⟨hm,hz⟩
   have hc:=Qz w h
   refine Qw (fun n t H'=>∃(i:Nat),n=(cnt w h).toNat-i∧i≤(cnt w h).toNat∧t 2=.pointer (some ⟨H.length,0,some 0⟩)∧t 3=.pointer (some ⟨H.length+1,0,some 0⟩)∧t 5=.int .i64 (cnt w h)∧t 22=.int .i64 (cnt w h)∧t 23=.int .i64 i∧
    H'=H++[⟨[.int .i64 w,.int .i64 h,v],0,42⟩,⟨[u],0,43⟩]∧∀a,a<i→Xm w h T a a=4) ?_ (n:=(cnt w h).toNat) ⟨0,by simp⟩
   rintro n t H' ⟨i,rfl,hi,h2,h3,h5,h22,h23,rfl,hk⟩ ih
   simp [h2,h3,h5,h22,h23]
   refine Qm ?_ ?_<;>intro hlt
   ·have ni:i<(cnt w h).toNat:=by omega
    obtain ⟨k0,k1,k2,k3⟩:=O1 (V6 ni) (V6 ni)
    have e1:IntKind.i64.wrap (i*cnt w h)=i*cnt w h:=Q0 (by omega) (by omega)
    have e2:IntKind.i64.wrap (i*cnt w h+i)=i*cnt w h+i:=Q0 (by omega) (by omega)
    have q1:∀L,Q6 Tryz.prog (H++L) 24 u (.int .i64 (i*cnt w h+i))=some (Yi u (i*cnt w h+i:Int).toNat):=fun L=>hT.idxA (e:=3) (by simp) k0 (by omega)
    have q2:∀L,Xh Tryz.prog (H++L) 3 (Yi u (i*cnt w h+i:Int).toNat)=some (.int .i64 (Xm w h T i i)):=fun L=>hT.loadA (by simp) (by omega)
    simp [h2,h3,h5,h22,h23,hlt,e1,e2,q1,q2]
    refine Qm ?_ ?_<;>intro hp
    ·simp [h2,h3,h5,h22,h23,hlt,hp]
     refine ih ((cnt w h).toNat-(i+1)) _ _ ⟨i+1,rfl,by omega,by simp [h2],by simp [h3],by simp [h5],by simp [h22],?_,rfl,fun a ha=>?_⟩ (by omega)
     ·simp;rw [Q0 (by omega) (by omega)]
     ·by_cases hai:a<i
      ·exact hk a hai
      ·have:a=i:=by omega
       subst this;exact hp
    ·simp [h2,h3,h5,h22,h23,hlt,hp]
     exact fun hh=>hp ((hh.2 i ni i ni).1 rfl)
   ·simp [h2,h3,h5,h22,h23,hlt]
    have:i=(cnt w h).toNat:=by omega
    subst this
    refine Ql (Qi1 w h _ (Q:=fun r _=>r=.bool (decide (U3 w h b T))) (fun done H'=>∃L,H'=H++[⟨[.int .i64 w,.int .i64 h,v],0,42⟩,⟨[u],0,43⟩]++L∧∀p∈done,walk w h b T p.1 p.2≠[]) ⟨_,rfl,by simp⟩ ?_ ?_) ?_
    ·rintro done a c _ ha hc' hne ⟨L,rfl,hd⟩
     simp
     rw [Qay w h v u b T a c _ _ (hI.app _) (hT.app _) hl hs (V6 ha) (V6 hc') (by omega) (by simp) (by simp)]
     simp
     by_cases hw:walk w h b T a c=[]
     ·refine .inr ⟨hw,?_⟩
      exact fun hh=>(hh.2 a (by omega) c (by omega)).2 (by omega) hw
     ·refine .inl ⟨hw,fun p q hp=>?_⟩
      rcases hp with hp|⟨rfl,rfl⟩
      ·exact hd (p,q) hp
      ·exact hw
    ·rintro _ ⟨L,rfl,hd⟩
     simp
     exact ⟨hs,fun a ha c hc'=>⟨fun _=>hk a ha,fun hne=>hd (a,c) (qi.2 ⟨ha,hc',hne⟩)⟩⟩
    ·rintro _ H' rfl
     simp
  ·simp [hz]
   exact fun hh=>hz hh.1.2
 ·simp [hm]
  exact fun hh=>hm hh.1.1
theorem Cq (w h:Int) (v u:Value) (b T:List Int) (hI:W7 H v b) (hT:W7 H u T) (hl:b.length≤1073741824) :
 Qh C frz 171 [.agg #[.int .i64 w,.int .i64 h,v],.agg #[u]] H=some (.bool (decide (U3 w h b T)),H):=
 (Qdf w h v u b T hI hT hl).exact (by simp) rfl
def Qk8 (w h:Int) (b T:List Int) (a:Int) (ts:List Int):Prop:=U3 w h b T∧Y6 w h a∧∀x∈ts,Y6 w h x
instance (w h:Int) (b T:List Int) (a:Int) (ts:List Int):Decidable (Qk8 w h b T a ts):=inferInstanceAs (Decidable (_∧_))
def Y9 (w h:Int) (b A B:List Int):Prop:=U3 w h b A∧U3 w h b B
instance (w h:Int) (b A B:List Int):Decidable (Y9 w h b A B):=inferInstanceAs (Decidable (_∧_))
abbrev Yy:=Int×Int×Int×Int×Int
def Wq (w h:Int) (p:Yy):Prop:=Xa 1 p.1 9999∧Y6 w h p.2.1∧Y6 w h p.2.2.1∧p.2.1≠p.2.2.1∧Xa 0 p.2.2.2.1 1∧Xa 1 p.2.2.2.2 5
instance (w h:Int) (p:Yy):Decidable (Wq w h p):=inferInstanceAs (Decidable (_∧_))
def Ja (p:Yy):Value:=.agg #[.int .i64 p.1,.int .i64 p.2.1,.int .i64 p.2.2.1,.int .i64 p.2.2.2.1,.int .i64 p.2.2.2.2]
theorem I2 (w h:Int) (v u1 u2:Value) (b A B:List Int) (hI:W7 H v b) (h1:W7 H u1 A) (h2:W7 H u2 B) (hl:b.length≤1073741824) :
 Qh C frz 130 [.agg #[.int .i64 w,.int .i64 h,v],.agg #[u1,u2]] H=some (.bool (decide (Y9 w h b A B)),H):=by
 rw [Qb (fn:=Tryz.f130) Tryz.func130 rfl (by kernel_rfl) rfl]
 have one:=And.intro (And.intro h1.one' h1.cells) (And.intro h2.one' h2.cells)
 simp [hI.one',hI.cells,one,Cq _ _ _ _ _ _ (hI.app _) (h1.app _) hl]
 refine Xs _ _ ?_ ?_<;>intro g<;>simp [g,Y9,hI.one',hI.cells,one,Cq _ _ _ _ _ _ (hI.app _) (h2.app _) hl]
theorem L9 (w h:Int) (v u1 u2:Value) (b A B:List Int) (hI:W7 H v b) (h1:W7 H u1 A) (h2:W7 H u2 B) (hl:b.length≤1073741824) :
 Qh C frz 102 [.agg #[.int .i64 w,.int .i64 h,v],.agg #[u1,u2]] H=some (.bool (decide (Y9 w h b A B)),H):=by
 rw [Qb (fn:=Tryz.f102) Tryz.func102 rfl (by kernel_rfl) rfl]
 have one:=And.intro (And.intro h1.one' h1.cells) (And.intro h2.one' h2.cells)
 simp [hI.one',hI.cells,one,Fz _ _ _ _ _ _ (hI.app _) (h1.app _) hl]
 refine Xs _ _ ?_ ?_<;>intro g<;>simp [g,Y9,hI.one',hI.cells,one,Fz _ _ _ _ _ _ (hI.app _) (h2.app _) hl]
theorem Dm (w h:Int) (p:Yy):Qh C frz 77 [.agg #[.int .i64 w,.int .i64 h],Ja p] H=some (.bool (decide (Wq w h p)),H):=by
 obtain ⟨i,a,b,c,l⟩:=p
 rw [Qb (fn:=Tryz.f77) Tryz.func77 rfl (by kernel_rfl) rfl]
 by_cases g1:Xa 1 i 9999
 ·by_cases g2:Y6 w h a
  ·by_cases g3:Y6 w h b
   ·by_cases g4:a=b
    ·simp [Ja,Wd,Zm,g1,g2,g3,g4,Wq]
    ·by_cases g5:Xa 0 c 1
     ·by_cases g6:Xa 1 l 5<;>simp [Ja,Wd,Zm,g1,g2,g3,g4,g5,g6,Wq]
     ·simp [Ja,Wd,Zm,g1,g2,g3,g4,g5,Wq]
   ·simp [Ja,Wd,Zm,g1,g2,g3,Wq]
  ·simp [Ja,Wd,Zm,g1,g2,Wq]
 ·simp [Ja,Wd,Zm,g1,Wq]
theorem Nq (w h:Int) (p:Yy):Qh C frz 58 [.agg #[.int .i64 w,.int .i64 h],Ja p] H=some (.bool (decide (Wq w h p)),H):=by
 obtain ⟨i,a,b,c,l⟩:=p
 rw [Qb (fn:=Tryz.f58) Tryz.func58 rfl (by kernel_rfl) rfl]
 by_cases g1:Xa 1 i 9999
 ·by_cases g2:Y6 w h a
  ·by_cases g3:Y6 w h b
   ·by_cases g4:a=b
    ·simp [Ja,Ws,Uy,g1,g2,g3,g4,Wq]
    ·by_cases g5:Xa 0 c 1
     ·by_cases g6:Xa 1 l 5<;>simp [Ja,Ws,Uy,g1,g2,g3,g4,g5,g6,Wq]
     ·simp [Ja,Ws,Uy,g1,g2,g3,g4,g5,Wq]
   ·simp [Ja,Ws,Uy,g1,g2,g3,Wq]
  ·simp [Ja,Ws,Uy,g1,g2,Wq]
 ·simp [Ja,Ws,Uy,g1,Wq]
theorem gx (i a c k l:Int):Qh C frz 74 [.agg #[.int .i64 i,.int .i64 a,.int .i64 c,.int .i64 k,.int .i64 l]] H=some (.agg #[.int .i64 i,.int .i64 a,.int .i64 c,.int .i64 k,.int .i64 l],H):=by
 rw [Qb (fn:=Tryz.f74) Tryz.func74 rfl (by kernel_rfl) rfl]
 simp
def T4 (w h:Int) (f:Q9):Prop:=Y6 w h f.2.1∧Xa 0 f.2.2.1 1
instance (w h:Int) (f:Q9):Decidable (T4 w h f):=inferInstanceAs (Decidable (_∧_))
def U1 (w h:Int) (l:List Q9):Prop:=∀f∈l,T4 w h f
instance (w h:Int) (l:List Q9):Decidable (U1 w h l):=inferInstanceAs (Decidable (∀f∈l,T4 w h f))
def P4 (x:Qu):Prop:=(x.2.2.1.length:Int)=10*cnt x.1.1 x.1.2.1∧(x.2.2.2.1.length:Int)=10*cnt x.1.1 x.1.2.1∧(x.2.2.2.2.1.length:Int)=5*cnt x.1.1 x.1.2.1∧(x.2.2.2.2.2.1.length:Int)=cnt x.1.1 x.1.2.1∧(x.2.2.2.2.2.2.1.length:Int)=cnt x.1.1 x.1.2.1
instance (x:Qu):Decidable (P4 x):=inferInstanceAs (Decidable (_∧_))
def Bp (w h:Int) (l:List Q9) (c:Int):Prop:=l.length≤3∧(∀f∈l,f.2.2.1=c)∧U1 w h l
instance (w h:Int) (l:List Q9) (c:Int):Decidable (Bp w h l c):=inferInstanceAs (Decidable (_∧_))
def Bk (w h:Int) (l:List Q9):Prop:=l.length≤60∧U1 w h l
instance (w h:Int) (l:List Q9):Decidable (Bk w h l):=inferInstanceAs (Decidable (_∧_))
def W9 (x:Qu):Prop:=Y9 x.1.1 x.1.2.1 x.1.2.2 x.2.1.1 x.2.1.2∧P4 x∧(∀i,i<x.2.2.1.length→Bp x.1.1 x.1.2.1 (x.2.2.1.getD i []) ((i:Int)%2))∧(∀l∈x.2.2.2.2.2.1,Bk x.1.1 x.1.2.1 l)∧
 (∀o∈x.2.2.2.1,Xa (-1) o 4)∧(∀o∈x.2.2.2.2.1,Xa 0 o 9)∧Xa 0 x.2.2.2.2.2.2.2 1000000
instance (x:Qu):Decidable (W9 x):=inferInstanceAs (Decidable (_∧_))
theorem Fs (w h:Int) (v:Value) (xs:List Q9) (hI:Rd Yh H v xs) (hl:xs.length≤1073741824) :
 Qh C frz 132 [.agg #[.int .i64 w,.int .i64 h],v] H=some (.bool (decide (U1 w h xs)),H):=by
 refine wp.exact (by simp) ?_ rfl
 rw [Qb (fn:=Tryz.f132) Tryz.func132 rfl (by kernel_rfl) rfl]
 generalize hB:decide (U1 w h xs)=B
 simp [hI.app.len (P:=Tryz.prog) (ty:=145) (by simp)]
 refine Qw (fun n t H'=>∃i:Nat,n=xs.length-i∧i≤xs.length∧t 2=.pointer (some ⟨H.length,0,some 0⟩)∧t 7=v∧t 8=.int .i64 xs.length∧t 9=.int .i64 i∧Qp H H' []∧H'[H.length]? = some ⟨[.int .i64 w,.int .i64 h],0,40⟩∧∀f∈xs.take i,T4 w h f) ?_ (n:=xs.length)
  ⟨0,rfl,by omega,by simp,by simp,by simp,by simp,Qp.app _,by simp,by simp⟩
 rintro n t H' ⟨i,rfl,hi,t2,t7,t8,t9,c,b2,hk⟩ ih
 simp [t2,t7,t8,t9]
 refine Qm ?_ ?_<;>intro g
 ·have hi':i<xs.length:=by omega
  have rd:=hI.chg c (by simp)
  have q1:=rd.idx (P:=Tryz.prog) (ty:=145) (e:=148) (by simp) (i:=(i:Int)) (by omega) (by omega)
  have q2:=rd.load (P:=Tryz.prog) (e:=148) (by simp) hi'
  simp only [Int.toNat_natCast,Ty] at q1 q2
  have l0:=c.1
  have hF:H.length≤H'.length:=l0
  have b2':=fun r=>Qa (Qj b2 [r]) (Qn H'.length r) (by simp;have:=Wj b2;omega)
  have hlt:=Wj b2
  have hne:H'.length≠H.length:=by omega
  have key:T4 w h xs[i]↔Y6 w h xs[i].2.1∧Xa 0 xs[i].2.2.1 1:=Iff.rfl
  have hsucc:∀f∈xs.take (i+1),f∈xs.take i∨f=xs[i]:=fun f hf=>by
   rw [List.take_succ_eq_append_getElem hi'] at hf
   rcases List.mem_append.1 hf with hf|hf
   ·exact .inl hf
   ·exact .inr (List.mem_singleton.1 hf)
  have hno:¬T4 w h xs[i]→¬U1 w h xs:=fun hh k=>hh (k _ (List.getElem_mem hi'))
  simp [t2,t7,t8,t9,q1,q2,hF,Xp,VM.look,b2,Qj b2,Zm,Wd]
  by_cases g1:Y6 w h xs[i].2.1
  ·by_cases g2:Xa 0 xs[i].2.2.1 1
   ·simp [t2,t7,t8,t9,g1,g2,Wd]
    refine ih (xs.length-(i+1)) _ _ ⟨i+1,rfl,by omega,by simp [t2],by simp [t7],by simp [t8],?_,c.trans (Qp.app _),Qj b2 _,fun f hf=>?_⟩ (by omega)
    ·simp;rw [Q0 (by omega) (by omega)]
    ·rcases hsucc f hf with hf|rfl
     ·exact hk f hf
     ·exact ⟨g1,g2⟩
   ·simp [t2,t7,t8,t9,g1,g2,Wd]
    rw [← hB];exact decide_eq_false (hno (fun hh=>g2 hh.2))
  ·simp [t2,t7,t8,t9,g1]
   rw [← hB];exact decide_eq_false (hno (fun hh=>g1 hh.1))
 ·have:i=xs.length:=by omega
  subst this
  rw [List.take_length] at hk
  simp [t2,t7,t8,t9]
  rw [← hB];exact decide_eq_true hk
theorem Ep (w h:Int) (v:Value) (xs:List Q9) (hI:Rd Yh H v xs) (hl:xs.length≤1073741824) :
 Qh C frz 104 [.agg #[.int .i64 w,.int .i64 h],v] H=some (.bool (decide (U1 w h xs)),H):=by
 refine wp.exact (by simp) ?_ rfl
 rw [Qb (fn:=Tryz.f104) Tryz.func104 rfl (by kernel_rfl) rfl]
 generalize hB:decide (U1 w h xs)=B
 simp
 have rd:Rd Yh (H++[⟨[.int .i64 w,.int .i64 h],0,40⟩]) v xs:=hI.app
 refine Qw (fun n t H'=>∃i:Nat,n=xs.length-i∧i≤xs.length∧t 1=v∧t 2=.pointer (some ⟨H.length,0,some 0⟩)∧t 5=.int .i64 i∧H'=H++[⟨[.int .i64 w,.int .i64 h],0,40⟩]∧∀f∈xs.take i,T4 w h f) ?_ (n:=xs.length)
  ⟨0,rfl,by omega,by simp,by simp,by simp,rfl,by simp⟩
 rintro n t H' ⟨i,rfl,hi,t1,t2,t5,rfl,hk⟩ ih
 simp [t1,t2,t5,rd.len (P:=Tryz.prog) (ty:=145) (by simp)]
 refine Qm ?_ ?_<;>intro g
 ·have hi':i<xs.length:=by omega
  have q1:=rd.idx (P:=Tryz.prog) (ty:=145) (e:=148) (by simp) (i:=(i:Int)) (by omega) (by omega)
  have q2:=rd.cell (P:=Tryz.prog) (e:=3) (by simp) hi' (c:=1) (by decide)
  have q3:=rd.cell (P:=Tryz.prog) (e:=3) (by simp) hi' (c:=2) (by decide)
  have q4:=rd.field (P:=Tryz.prog) (s:=148) (f:=1) (o:=1) (n:=1) (ag:=false) (by simp) (j:=i*5) (by omega)
  have q5:=rd.field (P:=Tryz.prog) (s:=148) (f:=2) (o:=2) (n:=1) (ag:=false) (by simp) (j:=i*5) (by omega)
  simp only [Int.toNat_natCast,Ty,Xp] at q1 q2 q3
  simp at q2 q3
  have hsucc:∀f∈xs.take (i+1),f∈xs.take i∨f=xs[i]:=fun f hf=>by
   rw [List.take_succ_eq_append_getElem hi'] at hf
   rcases List.mem_append.1 hf with hf|hf
   ·exact .inl hf
   ·exact .inr (List.mem_singleton.1 hf)
  have hno:¬T4 w h xs[i]→¬U1 w h xs:=fun hh k=>hh (k _ (List.getElem_mem hi'))
  simp [t1,t2,t5]
  rw [Qv (h:=by kernel_rfl)]
  simp [-Qy,Wr,t1,t2,t5,q1,q2,q3,q4,q5,Uy]
  by_cases g1:Y6 w h xs[i].2.1
  ·by_cases g2:Xa 0 xs[i].2.2.1 1
   ·simp [-Qy,Wr,t1,t2,t5,g1,g2,Ws,q1,q5,q3]
    refine ih (xs.length-(i+1)) _ _ ⟨i+1,rfl,by omega,by simp [t1],by simp [t2],?_,rfl,fun f hf=>?_⟩ (by omega)
    ·simp;rw [Q0 (by omega) (by omega)]
    ·rcases hsucc f hf with hf|rfl
     ·exact hk f hf
     ·exact ⟨g1,g2⟩
   ·simp [-Qy,Wr,t1,t2,t5,g1,g2,Ws,q1,q5,q3]
    rw [← hB];exact decide_eq_false (hno (fun hh=>g2 hh.2))
  ·simp [t1,t2,t5,g1]
   rw [← hB];exact decide_eq_false (hno (fun hh=>g1 hh.1))
 ·have:i=xs.length:=by omega
  subst this
  rw [List.take_length] at hk
  simp [t1,t2,t5]
  rw [← hB];exact decide_eq_true hk
theorem Ix (v:Value) (xs:List Q9) (c:Int) (hI:Rd Yh H v xs) (hl:xs.length≤1073741824) :
 wp (Qh C frz 131 [v,.int .i64 c] H) (fun r H'=>Ow Yh 148 H' r (xs.filter fun f=>f.2.2.1=c)∧(∀i∈ids r,H.length≤i)∧Qp H H' []):=by
 rw [Qb (fn:=Tryz.f131) Tryz.func131 rfl (by kernel_rfl) rfl]
 simp [hI.app.len (P:=Tryz.prog) (ty:=145) (by simp)]
 refine Qw (fun n t H'=>∃(i:Nat) (r:Value),n=xs.length-i∧i≤xs.length∧t 1=.int .i64 c∧t 5=r∧t 9=v∧t 10=.int .i64 xs.length∧t 11=.int .i64 i∧Qp H H' []∧Ow Yh 148 H' r ((xs.take i).filter fun f=>f.2.2.1=c)∧(∀j∈ids r,H.length≤j)) ?_ (n:=xs.length)
  ⟨0,.slice (some ⟨H.length,0,some 0⟩) 0 0,rfl,by omega,by simp,by simp,by simp,by simp,by simp,Qp.app _,Ow.new0 (D:=Yh) (xs:=[]) rfl rfl rfl rfl,by simp⟩
 rintro n t H' ⟨i,r,rfl,hi,t1,t5,t9,t10,t11,ch,o,nr⟩ ih
 simp [t1,t5,t9,t10,t11]
 refine Qm ?_ ?_<;>intro g
 ·have hi':i<xs.length:=by omega
  have rd:=hI.chg ch (by simp)
  have q1:=rd.idx (P:=Tryz.prog) (ty:=145) (e:=148) (by simp) (i:=(i:Int)) (by omega) (by omega)
  have q2:=rd.load (P:=Tryz.prog) (e:=148) (by simp) hi'
  simp only [Int.toNat_natCast,Ty] at q1 q2
  have hF:H.length≤H'.length:=ch.1
  have hfl:=List.length_filter_le (fun f:Q9=>decide (f.2.2.1=c)) (xs.take i)
  have htl:(xs.take i).length≤i:=by simp;omega
  simp [t1,t5,t9,t10,t11,q1,q2,hF,Xp,VM.look]
  refine Qm ?_ ?_<;>intro g1
  ·obtain ⟨r',H2,hap,o2,c2,n2⟩:=(o.app (L:=[⟨Yh.f xs[i],0,148⟩])).push (P:=Tryz.prog) (frz:=H.length) (ty:=145) (a:=xs[i]) (by simp) rfl (by omega) nr
   simp only [Xp,List.append_assoc,List.cons_append,List.nil_append,List.length_append,List.length_cons,List.length_nil] at hap
   simp [t1,t5,t9,t10,t11,hap]
   refine ih (xs.length-(i+1)) _ _ ⟨i+1,r',rfl,by omega,by simp [t1],by simp,by simp [t9],by simp [t10],?_,(ch.trans (Qp.app _)).trans' c2 (fun j hj=>.inr (nr j hj)),?_,fun j hj=>?_⟩ (by omega)
   ·simp;rw [Q0 (by omega) (by omega)]
   ·rw [List.take_succ_eq_append_getElem hi',List.filter_append];simpa [g1] using o2
   ·rcases n2 j hj with h1|h1
    ·exact nr j h1
    ·simp at h1;omega
  ·simp [t1,t5,t9,t10,t11,g1]
   refine ih (xs.length-(i+1)) _ _ ⟨i+1,r,rfl,by omega,by simp [t1],by simp [t5],by simp [t9],by simp [t10],?_,ch.trans (Qp.app _),?_,nr⟩ (by omega)
   ·simp;rw [Q0 (by omega) (by omega)]
   ·rw [List.take_succ_eq_append_getElem hi',List.filter_append];simpa [g1] using o.app
 ·have:i=xs.length:=by omega
  subst this
  rw [List.take_length] at o
  simp [t1,t5,t9,t10,t11]
  exact ⟨o,nr,ch⟩
end Go.Proofs.YtlhaeingdonaeaaGreat.V
set_option linter.all false
namespace Go.Proofs.YtlhaeingdonaeaaGreat.V
open Go Go.VM Go.Proofs
set_option maxRecDepth 10000
abbrev Pi:=Nat×Nat×Nat
def Uo (s:X9) (k:Nat) (f:List Q9→List Q9):X9:=s.set k (f (s.getD k []))
@[simp] theorem Gb (s:X9) (k:Nat) (f:List Q9→List Q9):(Uo s k f).length=s.length:=by simp [Uo]
theorem O8 {s:X9} {k:Nat} (f:List Q9→List Q9) (h:k<s.length):(Uo s k f).getD k []=f (s.getD k []):=by
 simp [Uo,List.getD_eq_getElem?_getD,h]
theorem Vi {s:X9} {k j:Nat} (f:List Q9→List Q9) (h:k≠j):(Uo s k f).getD j []=s.getD j []:=by
 simp [Uo,List.getD_eq_getElem?_getD,List.getElem?_set_ne h]
theorem Qgp {s:X9} {k j:Nat} (f g:List Q9→List Q9) (h:k≠j):Uo (Uo s k f) j g=Uo (Uo s j g) k f:=by
 have e1:=Vi (s:=s) f h
 have e2:=Vi (s:=s) g h.symm
 show (Uo s k f).set j (g ((Uo s k f).getD j []))=(Uo s j g).set k (f ((Uo s j g).getD k []))
 rw [e1,e2]
 exact List.set_comm _ _ h
theorem Qbi (s:X9) (k:Nat) (f g:List Q9→List Q9):Uo (Uo s k f) k g=Uo s k (fun l=>g (f l)):=by
 by_cases h:k<s.length
 ·show (Uo s k f).set k (g ((Uo s k f).getD k []))=_
  rw [O8 f h]
  simp [Uo]
 ·simp [Uo,List.set_eq_of_length_le (Nat.le_of_not_lt h)]
theorem Qex {s:X9} {k j:Nat} (f:Q9) (h:s.getD k []≠[]):Uo (Uo s j (·++[f])) k (List.drop 1)=Uo (Uo s k (List.drop 1)) j (·++[f]):=by
 by_cases e:j=k
 ·subst e
  rw [Qbi,Qbi]
  unfold Uo
  congr 1
  cases hh:s.getD j [] with
  | nil=>exact absurd hh h
  | cons a l=>rfl
 ·exact Qgp _ _ e
def Zx (l:List Q9):Q9:=l.headD (0,0,0,false,false)
def Yn (x:Qu) (j:Nat):Q9:=Zx (x.2.2.1.getD j [])
def S1 (g:Pi):Nat:=10*g.1+g.2.2
def Mf (x:Qu) (a p c:Nat):Nat:=(10*next x.1.1 x.1.2.1 a p+2*Ml p+c).toNat
def Yb (a p c:Nat):Nat:=10*a+2*p+c
def Te (s:X9) (g:Pi):X9:=Uo s (S1 g) (List.drop 1)
def Xv (x:Qu) (s:X9) (g:Pi):X9:=if g.2.1=4 then s else Uo s (Mf x g.1 g.2.1 (g.2.2%2)) (·++[Yn x (S1 g)])
def Rh (x:Qu) (s:X9) (g:Pi):X9:=if g.2.1=4 then Uo s g.1 (·++[Yn x (S1 g)]) else s
def Jx (x:Qu) (s:List Int) (g:Pi):List Int:=s.set (Yb g.1 g.2.1 (g.2.2%2)) (if (Yn x (S1 g)).2.2.2.2 then -1 else ((g.2.2/2:Nat):Int))
def On (s:List Int) (g:Pi):List Int:=s.set (5*g.1+g.2.1) (((g.2.2+1)%10:Nat):Int)
def U5 (x:Qu) (k:Nat):Q9:=Zx (x.2.2.2.2.2.1.getD k [])
def Ul (x:Qu) (k:Nat):Nat:=(10*(k:Int)+8+(U5 x k).2.2.1).toNat
def Ns (x:Qu) (s:X9) (k:Nat):X9:=Uo s (Ul x k) (·++[U5 x k])
def jn (s:X9) (k:Nat):X9:=Uo s k (List.drop 1)
def Vf (x:Qu) (a i:Nat):Int:=
 if x.2.2.1.getD (10*a+i) []=[] then -1
 else if (Yn x (10*a+i)).2.2.2.1 then Xm x.1.1 x.1.2.1 (if i%2=1 then x.2.1.2 else x.2.1.1) a (Yn x (10*a+i)).2.1
 else match (List.range 5).find? fun p=>x.2.2.2.1.getD (Yb a p (i%2)) 0=((i/2:Nat):Int) with
  | some p=>(p:Int)
  | none=>-1
def Pd (x:Qu) (a p c:Nat):Prop:=p=4∨(has x.1.1 x.1.2.1 x.1.2.2 (4*a+p)∧(x.2.2.1.getD (Mf x a p c) []).length<3)
noncomputable instance (x:Qu) (a p c:Nat):Decidable (Pd x a p c):=inferInstanceAs (Decidable (_∨_))
def Tn (x:Qu) (a i p:Nat):Prop:=Vf x a i=(p:Int)∧Pd x a p (i%2)∧
 x.2.2.2.1.getD (Yb a p (i%2)) 0=if (Yn x (10*a+i)).2.2.2.1 then -1 else ((i/2:Nat):Int)
noncomputable instance (x:Qu) (a i p:Nat):Decidable (Tn x a i p):=inferInstanceAs (Decidable (_∧_))
noncomputable def Ih (x:Qu) (a p:Nat):List Nat:=(List.range 10).filter fun i=>Tn x a i p
def T7 (t:Int) (l:List Int):Int:=l.foldl (fun b y=>if b<0∨(y-t+10)%10<(b-t+10)%10 then y else b) (-1)
noncomputable def R9 (x:Qu) (a p:Nat) (u:List Bool):List Nat:=(Ih x a p).filter fun i=>!u.getD (i/2) false
noncomputable def Ru (x:Qu) (a p:Nat) (u:List Bool):Int:=T7 (x.2.2.2.2.1.getD (5*a+p) 0) ((R9 x a p u).map Int.ofNat)
noncomputable def Ib (x:Qu) (a:Nat) (st:List Pi×List Bool) (p:Nat):List Pi×List Bool:=
 if 0≤Ru x a p st.2 then (st.1++[(a,p,(Ru x a p st.2).toNat)],st.2.set ((Ru x a p st.2).toNat/2) true) else st
noncomputable def Ou (x:Qu) (a p:Nat):List Pi×List Bool:=(List.range p).foldl (Ib x a) ([],List.replicate 5 false)
noncomputable def grN (x:Qu) (a:Nat):List Pi:=(Ou x a 5).1
noncomputable def T0 (x:Qu) (n:Nat):List Pi:=(List.range n).flatMap (grN x)
noncomputable def Wf (x:Qu):List Pi:=T0 x (cnt x.1.1 x.1.2.1).toNat
def Ve (x:Qu) (k:Nat):Prop:=x.2.2.2.2.2.1.getD k []≠[]∧(x.2.2.1.getD (Ul x k) []).length<3
noncomputable instance (x:Qu) (k:Nat):Decidable (Ve x k):=inferInstanceAs (Decidable (_∧_))
noncomputable def Wk (x:Qu):List Nat:=(List.range (cnt x.1.1 x.1.2.1).toNat).filter fun k=>Ve x k
noncomputable def Ud (x:Qu):Qu:=
 (x.1,x.2.1,(Wk x).foldl (Ns x) ((Wf x).foldl (Xv x) ((Wf x).foldl Te x.2.2.1)),(Wf x).foldl (Jx x) x.2.2.2.1,(Wf x).foldl On x.2.2.2.2.1,
  (Wk x).foldl jn x.2.2.2.2.2.1,(Wf x).foldl (Rh x) x.2.2.2.2.2.2.1,x.2.2.2.2.2.2.2+1)
def Ij (x:Qu) (s:X9) (g:Pi):X9:=Xv x (Te s g) g
@[simp] theorem je (s:X9) (g:Pi):(Te s g).length=s.length:=Gb _ _ _
@[simp] theorem Jo (x:Qu) (s:X9) (g:Pi):(Xv x s g).length=s.length:=by unfold Xv;split<;>simp
@[simp] theorem Eu (x:Qu) (s:X9) (g:Pi):(Rh x s g).length=s.length:=by unfold Rh;split<;>simp
@[simp] theorem E9 (x:Qu) (s:List Int) (g:Pi):(Jx x s g).length=s.length:=by unfold Jx;simp
@[simp] theorem Jc (s:List Int) (g:Pi):(On s g).length=s.length:=by unfold On;simp
@[simp] theorem Fw (x:Qu) (s:X9) (k:Nat):(Ns x s k).length=s.length:=Gb _ _ _
@[simp] theorem Fd (s:X9) (k:Nat):(jn s k).length=s.length:=Gb _ _ _
theorem Xg {α β:Type} {f:List β→α→List β} (h:∀s a,(f s a).length=s.length):∀(l:List α) (s:List β),(l.foldl f s).length=s.length
 | [],s=>rfl
 | a::l,s=>by rw [List.foldl_cons,Xg h l,h]
theorem Vd {α β:Type} (f:β→α→β) (s:β) {l:List α} {i:Nat} (h:i<l.length):(l.take (i+1)).foldl f s=f ((l.take i).foldl f s) l[i]:=by
 rw [List.take_succ_eq_append_getElem h,List.foldl_append];rfl
theorem Qe8 {x:Qu} {s:X9} {g g':Pi} (h:s.getD (S1 g') []≠[]):Te (Xv x s g) g'=Xv x (Te s g') g:=by
 unfold Te Xv
 by_cases e:g.2.1=4
 ·rw [if_pos e,if_pos e]
 ·rw [if_neg e,if_neg e];exact Qex _ h
theorem Qbf (x:Qu):∀(l:List Pi) (s:X9),(l.map S1).Nodup→(∀g∈l,s.getD (S1 g) []≠[])→l.foldl (Ij x) s=l.foldl (Xv x) (l.foldl Te s)
 | [],s,_,_=>rfl
 | g::l,s,nd,hs=>by
  obtain ⟨n1,n2⟩:=List.nodup_cons.1 nd
  have hne:∀g'∈l,S1 g≠S1 g':=fun g' hg e=>n1 (e▸List.mem_map_of_mem hg)
  have h1:∀g'∈l,(Te s g).getD (S1 g') []≠[]:=fun g' hg=>by
   rw [Te,Vi _ (hne g' hg)];exact hs g' (List.mem_cons_of_mem _ hg)
  have h2:∀g'∈l,(Ij x s g).getD (S1 g') []≠[]:=fun g' hg=>by
   have:=h1 g' hg
   unfold Ij Xv
   split
   ·exact this
   ·by_cases e:Mf x g.1 g.2.1 (g.2.2%2)=S1 g'
    ·rw [e]
     by_cases hl:S1 g'<(Te s g).length
     ·rw [O8 _ hl];simp
     ·simp [List.getD_eq_getElem?_getD,List.getElem?_eq_none (Nat.le_of_not_lt hl)] at this
    ·rw [Vi _ e];exact this
  rw [List.foldl_cons,Qbf x l _ n2 h2]
  have key:∀(m:List Pi) (z:X9),(m.map S1).Nodup→(∀g'∈m,z.getD (S1 g') []≠[])→m.foldl Te (Xv x z g)=Xv x (m.foldl Te z) g:=by
   intro m
   induction m with
   | nil=>intro z _ _;rfl
   | cons g' m ih=>
    intro z nz hz
    obtain ⟨z1,z2⟩:=List.nodup_cons.1 nz
    rw [List.foldl_cons,List.foldl_cons,Qe8 (hz g' (List.mem_cons_self ..))]
    refine ih _ z2 fun g2 hg2=>?_
    have Qyd:S1 g'≠S1 g2:=fun e=>z1 (e▸List.mem_map_of_mem hg2)
    rw [Te,Vi _ Qyd];exact hz g2 (List.mem_cons_of_mem _ hg2)
  show l.foldl (Xv x) (l.foldl Te (Xv x (Te s g) g))=_
  rw [key l (Te s g) n2 h1]
  rfl
theorem Jt (t:Int):∀(l:List Int) (b:Int),(l.foldl (fun b y=>if b<0∨(y-t+10)%10<(b-t+10)%10 then y else b) b)=b∨(l.foldl (fun b y=>if b<0∨(y-t+10)%10<(b-t+10)%10 then y else b) b)∈l
 | [],b=>.inl rfl
 | y::l,b=>by
  rw [List.foldl_cons]
  rcases Jt t l (if b<0∨(y-t+10)%10<(b-t+10)%10 then y else b) with h|h
  ·rw [h];split
   ·exact .inr (List.mem_cons_self ..)
   ·exact .inl rfl
  ·exact .inr (List.mem_cons_of_mem _ h)
theorem kv {t:Int} {l:List Int} (h:0≤T7 t l):T7 t l∈l:=by
 rcases Jt t l (-1) with g|g
 ·unfold T7 at h;rw [g] at h;omega
 ·exact g
theorem ju {x:Qu} {a p:Nat} {u:List Bool} (h:0≤Ru x a p u):(Ru x a p u).toNat∈R9 x a p u:=by
 have:=kv h
 obtain ⟨i,hi,he⟩:=List.mem_map.1 this
 have e:Ru x a p u=(i:Int):=he.symm
 rw [e];simpa using hi
theorem Gu {x:Qu} {a p i:Nat} {u:List Bool} (h:i∈R9 x a p u):i<10∧Tn x a i p∧u.getD (i/2) false=false:=by
 obtain ⟨h1,h2⟩:=List.mem_filter.1 h
 obtain ⟨h3,h4⟩:=List.mem_filter.1 h1
 exact ⟨List.mem_range.1 h3,by simpa using h4,by simpa using h2⟩
theorem Nu (x:Qu) (a p:Nat):Ou x a (p+1)=Ib x a (Ou x a p) p:=by
 unfold Ou;rw [List.range_succ,List.foldl_append];rfl
structure GrOk (x:Qu) (a p:Nat) (st:List Pi×List Bool):Prop where
 len:st.2.length=5
 at':∀g∈st.1,g.1=a∧g.2.1<p∧g.2.2<10∧Tn x a g.2.2 g.2.1∧st.2.getD (g.2.2/2) false=true
 nd:(st.1.map S1).Nodup
 le:st.1.length≤p
theorem Qge {u:List Bool} {k j:Nat} (h:u.getD j false=true):(u.set k true).getD j false=true:=by
 simp only [List.getD_eq_getElem?_getD,List.getElem?_set] at *
 split
 ·split<;>simp_all
 ·exact h
theorem P5 (x:Qu) (a:Nat):∀p,p≤5→GrOk x a p (Ou x a p)
 | 0,_=>⟨rfl,fun g h=>by simp [Ou] at h,by simp [Ou],by simp [Ou]⟩
 | p+1,hp=>by
  obtain ⟨h1,h2,h3,h4⟩:=P5 x a p (by omega)
  rw [Nu]
  unfold Ib
  generalize Ou x a p=st at *
  split
  ·rename_i hk
   obtain ⟨k1,k2,k3⟩:=Gu (ju hk)
   generalize hk':(Ru x a p st.2).toNat=k at *
   refine ⟨by simpa using h1,fun g hg=>?_,?_,by simp only [List.length_append,List.length_cons,List.length_nil];omega⟩
   ·rcases List.mem_append.1 hg with hg|hg
    ·obtain ⟨g1,g2,g3,g4,g5⟩:=h2 g hg
     exact ⟨g1,by omega,g3,g4,Qge g5⟩
    ·have:=List.mem_singleton.1 hg
     subst this
     exact ⟨rfl,by simp,k1,k2,by show (st.2.set (k/2) true).getD (k/2) false=true;rw [List.getD_eq_getElem?_getD,List.getElem?_set_self (by rw [h1];omega)];rfl⟩
   ·rw [List.map_append]
    refine List.nodup_append.2 ⟨h3,by simp,fun y hy z hz e=>?_⟩
    obtain ⟨g,hg,rfl⟩:=List.mem_map.1 hy
    simp at hz
    obtain ⟨g1,g2,g3,g4,g5⟩:=h2 g hg
    have:g.2.2=k:=by have:S1 g=S1 (a,p,k):=e.trans hz;unfold S1 at this;simp only at this;omega
    rw [this,k3] at g5
    simp at g5
  ·exact ⟨h1,fun g hg=>by obtain ⟨g1,g2,g3,g4,g5⟩:=h2 g hg;exact ⟨g1,by omega,g3,g4,g5⟩,h3,by omega⟩
theorem Oa (x:Qu) (n:Nat):T0 x (n+1)=T0 x n++grN x n:=by
 unfold T0;rw [List.range_succ,List.flatMap_append];simp
theorem Qa1 (x:Qu) (a:Nat):(grN x a).length≤5:=(P5 x a 5 (by omega)).le
theorem R8 (x:Qu):∀n,(∀g∈T0 x n,g.1<n∧g.2.1<5∧g.2.2<10∧Tn x g.1 g.2.2 g.2.1)∧((T0 x n).map S1).Nodup∧(T0 x n).length≤5*n
 | 0=>⟨fun g h=>by simp [T0] at h,by simp [T0],by simp [T0]⟩
 | n+1=>by
  obtain ⟨h1,h2,h3⟩:=R8 x n
  obtain ⟨_,k2,k3,k4⟩:=P5 x n 5 (by omega)
  rw [Oa]
  refine ⟨fun g hg=>?_,?_,by simp [grN];omega⟩
  ·rcases List.mem_append.1 hg with hg|hg
   ·obtain ⟨a1,a2⟩:=h1 g hg;exact ⟨by omega,a2⟩
   ·obtain ⟨a1,a2,a3,a4,_⟩:=k2 g hg
    exact ⟨by omega,a2,a3,by rw [a1];exact a4⟩
  ·rw [List.map_append]
   refine List.nodup_append.2 ⟨h2,k3,fun y hy z hz e=>?_⟩
   obtain ⟨g,hg,rfl⟩:=List.mem_map.1 hy
   obtain ⟨g',hg',rfl⟩:=List.mem_map.1 hz
   have a1:=h1 g hg
   have a2:=k2 g' hg'
   unfold S1 at e;omega
theorem Tq {x:Qu} {g:Pi} (h:g∈Wf x):(g.1:Int)<cnt x.1.1 x.1.2.1∧g.2.1<5∧g.2.2<10∧Tn x g.1 g.2.2 g.2.1:=by
 obtain ⟨h1,h2⟩:=(R8 x _).1 g h
 exact ⟨by omega,h2⟩
theorem Gg (x:Qu):((Wf x).map S1).Nodup:=(R8 x _).2.1
theorem Kx (x:Qu):(Wf x).length≤80:=by
 have:=(R8 x (cnt x.1.1 x.1.2.1).toNat).2.2
 have:=Qz x.1.1 x.1.2.1
 unfold Wf;omega
theorem Ia {x:Qu} {a i p:Nat} (h:Tn x a i p):x.2.2.1.getD (10*a+i) []≠[]:=fun e=>by
 have:=h.1
 unfold Vf at this
 rw [if_pos e] at this
 omega
theorem N0 {l:List Q9} (h:l≠[]):Zx l∈l:=by
 cases l with
 | nil=>exact absurd rfl h
 | cons a l=>exact List.mem_cons_self ..
def Qb9 (P:Nat→Q9→Prop) (s:X9):Prop:=∀j,∀f∈s.getD j [],P j f
def Zq (x:Qu):Prop:=Y9 x.1.1 x.1.2.1 x.1.2.2 x.2.1.1 x.2.1.2∧P4 x∧Qb9 (fun j f=>f.2.2.1=(j:Int)%2∧T4 x.1.1 x.1.2.1 f) x.2.2.1∧Qb9 (fun _ f=>T4 x.1.1 x.1.2.1 f) x.2.2.2.2.2.1∧∀o∈x.2.2.2.2.1,Xa 0 o 9
theorem Bs {P:Nat→Q9→Prop} {s:X9} {k:Nat} (h:Qb9 P s):Qb9 P (Uo s k (List.drop 1)):=fun j f hf=>by
 by_cases e:k=j
 ·subst e
  by_cases hl:k<s.length
  ·rw [O8 _ hl] at hf;exact h k f (List.mem_of_mem_drop hf)
  ·simp [Uo,List.getD_eq_getElem?_getD,List.getElem?_eq_none (Nat.le_of_not_lt hl),List.set_eq_of_length_le (Nat.le_of_not_lt hl)] at hf
 ·rw [Vi _ e] at hf;exact h j f hf
theorem Bw {P:Nat→Q9→Prop} {s:X9} {k:Nat} {y:Q9} (h:Qb9 P s) (hy:P k y):Qb9 P (Uo s k (·++[y])):=fun j f hf=>by
 by_cases e:k=j
 ·subst e
  by_cases hl:k<s.length
  ·rw [O8 _ hl] at hf
   rcases List.mem_append.1 hf with hf|hf
   ·exact h k f hf
   ·rw [List.mem_singleton.1 hf];exact hy
  ·simp [Uo,List.getD_eq_getElem?_getD,List.getElem?_eq_none (Nat.le_of_not_lt hl),List.set_eq_of_length_le (Nat.le_of_not_lt hl)] at hf
 ·rw [Vi _ e] at hf;exact h j f hf
theorem Tc {α β:Type} {f:β→α→β} (I:β→Prop):∀(l:List α) (s:β),I s→(∀s a,a∈l→I s→I (f s a))→I (l.foldl f s)
 | [],s,h,_=>h
 | a::l,s,h,k=>Tc I l _ (k s a (List.mem_cons_self ..) h) fun s b hb=>k s b (List.mem_cons_of_mem _ hb)
theorem My {x:Qu} {a p c:Nat} (h:has x.1.1 x.1.2.1 x.1.2.2 (4*(a:Int)+p)) (hp:p<4) :
 Y6 x.1.1 x.1.2.1 (next x.1.1 x.1.2.1 a p)∧0≤Ml p∧Ml p<4:=by
 obtain ⟨_,_,h3⟩:=N4 (w:=x.1.1) (h:=x.1.2.1) (a:=a) (p:=p) (b:=x.1.2.2) ⟨by omega,by omega⟩ h
 refine ⟨h3,?_⟩
 unfold Ml
 rw [if_neg (by omega),if_pos (by omega)]
 omega
theorem Sh {x:Qu} {a p c:Nat} (h:has x.1.1 x.1.2.1 x.1.2.2 (4*(a:Int)+p)) (hp:p<4) (hc:c<2) :
 ((Mf x a p c:Nat):Int)=10*next x.1.1 x.1.2.1 a p+2*Ml p+c∧((Mf x a p c:Nat):Int)<10*cnt x.1.1 x.1.2.1∧((Mf x a p c:Nat):Int)%2=c:=by
 obtain ⟨⟨h1,h2⟩,h3,h4⟩:=My (c:=c) h hp
 unfold Mf
 generalize next x.1.1 x.1.2.1 a p=N at *
 generalize Ml p=O at *
 refine ⟨by omega,by omega,by omega⟩
theorem Qhu {x:Qu} (h:Zq x) {a i p:Nat} (r:Tn x a i p):(Yn x (10*a+i)).2.2.1=((10*a+i:Nat):Int)%2∧T4 x.1.1 x.1.2.1 (Yn x (10*a+i)):=
 h.2.2.1 _ _ (N0 (Ia r))
theorem Np {x:Qu} (h:Zq x) {k:Nat} (r:x.2.2.2.2.2.1.getD k []≠[]):T4 x.1.1 x.1.2.1 (U5 x k)∧(Ul x k:Int)=10*k+8+(U5 x k).2.2.1∧(Ul x k:Int)%2=(U5 x k).2.2.1:=by
 have:=h.2.2.2.1 k _ (N0 r)
 have h2:=this.2
 unfold Xa at h2
 refine ⟨this,?_⟩
 unfold Ul U5
 omega
theorem Vo {x:Qu} {k:Nat} (h:k∈Wk x):(k:Int)<cnt x.1.1 x.1.2.1∧Ve x k:=by
 obtain ⟨h1,h2⟩:=List.mem_filter.1 h
 have:=List.mem_range.1 h1
 exact ⟨by omega,by simpa using h2⟩
theorem Jl (x:Qu):(Wk x).Nodup:=List.Pairwise.filter _ List.nodup_range
theorem Of (x:Qu):(Wk x).length≤16:=by
 have h1:=List.length_filter_le (fun k=>decide (Ve x k)) (List.range (cnt x.1.1 x.1.2.1).toNat)
 have:=Qz x.1.1 x.1.2.1
 rw [List.length_range] at h1
 unfold Wk;omega
theorem Fy {x:Qu} (h:Zq x):Zq (Ud x):=by
 have hx:=h
 obtain ⟨h1,⟨s1,s2,s3,s4,s5⟩,h3,h4,h5⟩:=h
 refine ⟨h1,⟨?_,?_,?_,?_,?_⟩,?_,?_,?_⟩
 ·show (((Wk x).foldl (Ns x) ((Wf x).foldl (Xv x) ((Wf x).foldl Te x.2.2.1))).length:Int)=_
  rw [Xg (Fw x),Xg (Jo x),Xg je];exact s1
 ·show (((Wf x).foldl (Jx x) x.2.2.2.1).length:Int)=_
  rw [Xg (E9 x)];exact s2
 ·show (((Wf x).foldl On x.2.2.2.2.1).length:Int)=_
  rw [Xg Jc];exact s3
 ·show (((Wk x).foldl jn x.2.2.2.2.2.1).length:Int)=_
  rw [Xg Fd];exact s4
 ·show (((Wf x).foldl (Rh x) x.2.2.2.2.2.2.1).length:Int)=_
  rw [Xg (Eu x)];exact s5
 ·refine Tc _ _ _ (Tc _ _ _ (Tc _ _ _ h3 fun s g hg hs=>Bs hs) fun s g hg hs=>?_) fun s k hk hs=>?_
  ·unfold Xv
   split
   ·exact hs
   ·rename_i hp
    obtain ⟨a1,a2,a3,a4⟩:=Tq hg
    have hh:=a4.2.1
    rcases hh with hh|⟨hh,_⟩
    ·exact absurd hh hp
    obtain ⟨t1,t2,t3⟩:=Sh (c:=g.2.2%2) hh (by omega) (by omega)
    obtain ⟨e1,e2⟩:=Qhu hx a4
    refine Bw hs ⟨?_,e2⟩
    show (Yn x (10*g.1+g.2.2)).2.2.1=_
    rw [e1,t3];omega
  ·obtain ⟨_,e1,_⟩:=Vo hk
   obtain ⟨f1,f2,f3⟩:=Np hx e1
   exact Bw hs ⟨f3.symm,f1⟩
 ·exact Tc _ _ _ h4 fun s k hk hs=>Bs hs
 ·refine Tc (fun s:List Int=>∀o∈s,Xa 0 o 9) _ _ h5 fun s g hg hs o ho=>?_
  rcases List.mem_or_eq_of_mem_set ho with ho|rfl
  ·exact hs o ho
  ·unfold Xa;omega
def Xf (L:Nat) (s:X9):Prop:=∀l∈s,l.length≤L
theorem Qa7 {s:X9} {k:Nat} {f:List Q9→List Q9} {l:List Q9} (h:l∈Uo s k f):l∈s∨(l=f (s.getD k [])∧k<s.length):=by
 unfold Uo at h
 by_cases hl:k<s.length
 ·rcases List.mem_or_eq_of_mem_set h with h|h
  ·exact .inl h
  ·exact .inr ⟨h,hl⟩
 ·rw [List.set_eq_of_length_le (Nat.le_of_not_lt hl)] at h;exact .inl h
theorem Km {s:X9} {k:Nat} (hl:k<s.length):s.getD k []∈s:=by
 simp [List.getD_eq_getElem?_getD,hl]
theorem N6 {L:Nat} {s:X9} {k:Nat} (h:Xf L s):Xf L (Uo s k (List.drop 1)):=fun l hl=>by
 rcases Qa7 hl with hl|⟨rfl,hk⟩
 ·exact h l hl
 ·have:=h _ (Km hk);rw [List.length_drop];omega
theorem Jb {L:Nat} {s:X9} {k:Nat} {y:Q9} (h:Xf L s):Xf (L+1) (Uo s k (·++[y])):=fun l hl=>by
 rcases Qa7 hl with hl|⟨rfl,hk⟩
 ·have:=h l hl;omega
 ·have:=h _ (Km hk);simp only [List.length_append,List.length_cons,List.length_nil];omega
theorem Xe {L M:Nat} {s:X9} (h:Xf L s) (k:L≤M):Xf M s:=fun l hl=>by have:=h l hl;omega
theorem Y7 {α:Type} {f:X9→α→X9} (hf:∀s a L,Xf L s→Xf (L+1) (f s a)):∀(l:List α) (s:X9) (L:Nat),Xf L s→Xf (L+l.length) (l.foldl f s)
 | [],s,L,h=>by simpa using h
 | a::l,s,L,h=>by
  have:=Y7 hf l (f s a) (L+1) (hf s a L h)
  rw [List.foldl_cons,List.length_cons]
  exact Xe this (by omega)
theorem Bf {L:Nat} (l:List Pi) (s:X9) (h:Xf L s):Xf L (l.foldl Te s):=Tc _ _ _ h fun s g hg hs=>N6 hs
theorem Qcs {L:Nat} (l:List Nat) (s:X9) (h:Xf L s):Xf L (l.foldl jn s):=Tc _ _ _ h fun s g hg hs=>N6 hs
theorem Nv (x:Qu) (s:X9) (g:Pi) (L:Nat) (h:Xf L s):Xf (L+1) (Xv x s g):=by
 unfold Xv;split
 ·exact Xe h (by omega)
 ·exact Jb h
theorem Ec (x:Qu) (s:X9) (g:Pi) (L:Nat) (h:Xf L s):Xf (L+1) (Rh x s g):=by
 unfold Rh;split
 ·exact Jb h
 ·exact Xe h (by omega)
theorem Br (x:Qu) (s:X9) (g:Pi) (L:Nat) (h:Xf L s):Xf (L+1) (Ij x s g):=Nv x _ g L (N6 h)
theorem Ea (x:Qu) (s:X9) (k:Nat) (L:Nat) (h:Xf L s):Xf (L+1) (Ns x s k):=Jb h
theorem Qdd {x:Qu} {L:Nat} (h1:Xf L x.2.2.1) (h2:Xf L x.2.2.2.2.2.2.1):Xf (L+96) (Ud x).2.2.1∧Xf (L+96) (Ud x).2.2.2.2.2.2.1:=by
 have a1:=Kx x
 have a2:=Of x
 refine ⟨?_,?_⟩
 ·exact Xe (Y7 (Ea x) (Wk x) _ _ (Y7 (Nv x) (Wf x) _ _ (Bf (Wf x) _ h1))) (by omega)
 ·exact Xe (Y7 (Ec x) (Wf x) _ _ h2) (by omega)
end Go.Proofs.YtlhaeingdonaeaaGreat.V
set_option linter.all false
namespace Go.Proofs.YtlhaeingdonaeaaGreat.V
open Go Go.VM Go.Proofs
set_option maxRecDepth 10000
variable {frz:Nat} {H:Qd}
theorem Pj (ys:List Int):ones (cellsOf Fl.int ys)=true:=by
 rw [W1];unfold ones
 rw [List.all_eq_true]
 intro x hx
 obtain ⟨y,_,rfl⟩:=List.mem_map.1 hx
 rfl
theorem Lc (w h:Int) (v:Value) (b:List Int) (hI:W7 H v b) (hl:b.length≤1073741824):wp (Qh C frz 126 [.agg #[.int .i64 w,.int .i64 h,v]] H) (Qx.Made H (w,h,b)):=by
 rw [Qb (fn:=Tryz.f126) Tryz.func126 rfl (by kernel_rfl) rfl]
 have one:=And.intro hI.one' hI.cells
 simp [one]
 rw [S0 (h:=⟨by kernel_rfl,by kernel_rfl⟩)]
 simp [Sd,Zi,Vs,one,(hI.app _).src]
 by_cases h0:b=[]
 ·subst h0
  simp
  exact ⟨_,rfl,⟨.inl ⟨rfl,rfl⟩,by simp⟩,Qp.app _,by simp [Qx],by simp [Qx]⟩
 ·simp [h0,hl]
  exact ⟨_,rfl,⟨Ow.new (D:=Fl.int) (e:=3) (xs:=b) (k:=2) (by simp) (W1 _).symm (by simp) rfl,hl⟩,Qp.app _,by simp [Qx],Wa (.slice (some ⟨H.length+2,0,some 0⟩) b.length 0)⟩
theorem J9 (w h:Int) (v:Value) (b:List Int) (hI:W7 H v b) (hl:b.length≤1073741824):wp (Qh C frz 99 [.agg #[.int .i64 w,.int .i64 h,v]] H) (Qx.Made H (w,h,b)):=by
 rw [Qb (fn:=Tryz.f99) Tryz.func99 rfl (by kernel_rfl) rfl]
 have one:=And.intro hI.one' hI.cells
 simp [one]
 rw [S0 (h:=⟨by kernel_rfl,by kernel_rfl⟩)]
 simp [Sd,Zi,Vs,one,(hI.app _).src]
 by_cases h0:b=[]
 ·subst h0
  simp
  exact ⟨_,rfl,⟨.inl ⟨rfl,rfl⟩,by simp⟩,Qp.app _,by simp [Qx],by simp [Qx]⟩
 ·simp [h0,hl]
  exact ⟨_,rfl,⟨Ow.new (D:=Fl.int) (e:=3) (xs:=b) (k:=2) (by simp) (W1 _).symm (by simp) rfl,hl⟩,Qp.app _,by simp [Qx],Wa (.slice (some ⟨H.length+2,0,some 0⟩) b.length 0)⟩
theorem Nn (v:Value) (xs:List Int) (hI:W7 H v xs) (hl:xs.length≤1073741824):wp (Qh C frz 169 [.agg #[v]] H) (Wu.Made H xs):=by
 rw [Qb (fn:=Tryz.f169) Tryz.func169 rfl (by kernel_rfl) rfl]
 have one:=And.intro hI.one' hI.cells
 simp [one,(hI.app _).src]
 by_cases h0:xs=[]
 ·subst h0
  simp
  exact ⟨_,rfl,⟨Ow.new (D:=Fl.int) (e:=3) (xs:=[]) (k:=2) (by simp) rfl rfl rfl,by simp⟩,Qp.app _,by simp [Wu],Wa (.slice (some ⟨H.length+2,0,some 0⟩) 0 0)⟩
 ·simp [h0,hl]
  exact ⟨_,rfl,⟨Ow.new (D:=Fl.int) (e:=3) (xs:=xs) (k:=2) (by simp) (W1 _).symm (by simp) rfl,hl⟩,Qp.app _,by simp [Wu],Wa (.slice (some ⟨H.length+2,0,some 1⟩) xs.length 0)⟩
theorem Jf (v:Value) (xs:List Int) (hI:W7 H v xs) (hl:xs.length≤1073741824):wp (Qh C frz 155 [.agg #[v]] H) (Wu.Made H xs):=by
 rw [Qb (fn:=Tryz.f155) Tryz.func155 rfl (by kernel_rfl) rfl]
 have one:=And.intro hI.one' hI.cells
 simp [one,(hI.app _).src]
 by_cases h0:xs=[]
 ·subst h0
  simp
  exact ⟨_,rfl,⟨Ow.new (D:=Fl.int) (e:=3) (xs:=[]) (k:=2) (by simp) rfl rfl rfl,by simp⟩,Qp.app _,by simp [Wu],Wa (.slice (some ⟨H.length+2,0,some 0⟩) 0 0)⟩
 ·simp [h0,hl]
  exact ⟨_,rfl,⟨Ow.new (D:=Fl.int) (e:=3) (xs:=xs) (k:=2) (by simp) (W1 _).symm (by simp) rfl,hl⟩,Qp.app _,by simp [Wu],Wa (.slice (some ⟨H.length+2,0,some 1⟩) xs.length 0)⟩
def mkF (k:Int):Q9:=(k,k+1,k+2,decide ((k+3).tmod 3=0),decide ((k+4).tmod 3=0))
def Z1 (k:Int):Nat→List Q9
 | 0=>[]
 | n+1=>Z1 k n++[mkF (k+5*n)]
@[simp] theorem Oc (k:Int):∀n,(Z1 k n).length=n
 | 0=>rfl
 | n+1=>by simp [Z1,Oc k n]
theorem Dd (k:Int) {i:Nat}:∀n (h:i<n),(Z1 k n)[i]'(by simpa using h)=mkF (k+5*i)
 | 0,h=>by omega
 | n+1,h=>by
  simp only [Z1]
  by_cases hi:i<n
  ·rw [List.getElem_append_left (by simpa using hi)];exact Dd k n hi
  ·have:i=n:=by omega
   subst this
   rw [List.getElem_append_right (by simp)];simp
theorem gh (k:Int) (xs:List Q9) {i:Nat} (h:i<xs.length):(Z1 k i++xs.drop i).set i (mkF (k+5*i))=Z1 k (i+1)++xs.drop (i+1):=by
 rw [List.set_append_right _ _ (by simp),Oc,Nat.sub_self,List.drop_eq_getElem_cons h,List.set_cons_zero,Z1]
 simp
theorem zc (v:Value) (xs:List Q9) (e:TypeId) (k:Int) (h:Ow Yh e H v xs) (hl:xs.length≤67108864) (hk:0≤k∧k≤4611686018427387904) (hf:∀i∈ids v,frz≤i) :
 wp (Qh C frz 151 [v,.int .i64 k] H) (fun r H'=>r=.int .i64 (k+5*xs.length)∧Ow Yh e H' v (Z1 k xs.length)∧Qp H H' (ids v)∧H'.length=H.length):=by
 rw [Qb (fn:=Tryz.f151) Tryz.func151 rfl (by kernel_rfl) rfl]
 simp
 refine Qw (fun n t H'=>∃i:Nat,n=xs.length-i∧i≤xs.length∧t 0=v∧t 1=.int .i64 (k+5*i)∧t 5=.int .i64 i∧Ow Yh e H' v (Z1 k i++xs.drop i)∧Qp H H' (ids v)∧H'.length=H.length) ?_ (n:=xs.length)
  ⟨0,by simp,by omega,by simp,by simp,by simp,by simpa [Z1] using h,Qp.refl _,rfl⟩
 rintro n t H' ⟨i,rfl,hi,h0,h1,h5,o,c,l⟩ ih
 have hlen:(Z1 k i++xs.drop i).length=xs.length:=by simp;omega
 have ll:=o.rd.len (P:=Tryz.prog) (ty:=145) (by simp)
 rw [hlen] at ll
 simp [h0,h1,h5,ll]
 refine Qm ?_ ?_<;>intro h6
 ·have hi':i<xs.length:=by omega
  have hms:=gh k xs hi'
  generalize Z1 k i++xs.drop i=ys at *
  have hy:i<ys.length:=by omega
  obtain ⟨K,hK⟩:∃K,K=k+5*(i:Int):=⟨_,rfl⟩
  obtain ⟨K1,hK1⟩:∃K1,K1=K+1:=⟨_,rfl⟩
  obtain ⟨K2,hK2⟩:∃K1,K1=K+2:=⟨_,rfl⟩
  obtain ⟨K3,hK3⟩:∃K1,K1=K+3:=⟨_,rfl⟩
  obtain ⟨K4,hK4⟩:∃K1,K1=K+4:=⟨_,rfl⟩
  obtain ⟨B3,hB3⟩:∃B,B=decide (K3.tmod 3=0):=⟨_,rfl⟩
  obtain ⟨B4,hB4⟩:∃B,B=decide (K4.tmod 3=0):=⟨_,rfl⟩
  have hmk:mkF K=(K,K1,K2,B3,B4):=by rw [hB3,hB4,hK1,hK2,hK3,hK4];rfl
  have w1:∀[Inhabited Unit],IntKind.i64.wrap (K+1)=K1:=by intro _;rw [Q0 (by omega) (by omega),hK1]
  have w2:∀[Inhabited Unit],IntKind.i64.wrap (K1+1)=K2:=by intro _;rw [Q0 (by omega) (by omega)];omega
  have w3:∀[Inhabited Unit],IntKind.i64.wrap (K2+1)=K3:=by intro _;rw [Q0 (by omega) (by omega)];omega
  have w4:∀[Inhabited Unit],IntKind.i64.wrap (K3+1)=K4:=by intro _;rw [Q0 (by omega) (by omega)];omega
  have w5:∀[Inhabited Unit],IntKind.i64.wrap (K4+1)=k+5*((i+1:Nat):Int):=by intro _;rw [Q0 (by omega) (by omega)];omega
  rw [← hK] at hms h1
  obtain ⟨z,hz⟩:∃z,z=ys[i]:=⟨_,rfl⟩
  have ix:=fun {G:Qd} {zs:List Q9} (oo:Ow Yh e G v zs) (hh:i<zs.length)=>oo.rd.idx (P:=Tryz.prog) (ty:=145) (e:=148) (by simp) (i:=(i:Int)) (by omega) (by omega)
  have fa:=fun {G:Qd} {zs:List Q9} (oo:Ow Yh e G v zs) (hh:i<zs.length)=>(show _∧_∧_∧_∧_ from
   ⟨oo.rd.field (P:=Tryz.prog) (s:=148) (f:=0) (o:=0) (n:=1) (ag:=false) (by simp) (j:=i*5) (by omega),oo.rd.field (P:=Tryz.prog) (s:=148) (f:=1) (o:=1) (n:=1) (ag:=false) (by simp) (j:=i*5) (by omega),
    oo.rd.field (P:=Tryz.prog) (s:=148) (f:=2) (o:=2) (n:=1) (ag:=false) (by simp) (j:=i*5) (by omega),oo.rd.field (P:=Tryz.prog) (s:=148) (f:=3) (o:=3) (n:=1) (ag:=false) (by simp) (j:=i*5) (by omega),
    oo.rd.field (P:=Tryz.prog) (s:=148) (f:=4) (o:=4) (n:=1) (ag:=false) (by simp) (j:=i*5) (by omega)⟩)
  obtain ⟨H1,s1,o1,c1,l1⟩:=o.store1 (P:=Tryz.prog) (frz:=frz) (et:=3) (ag:=false) (x:=.int .i64 K) (by simp) (j:=i) (c:=0) (y:=(K,z.2)) hy (by decide) rfl rfl (by rw [← hz];rfl) hf
  obtain ⟨H2,s2,o2,c2,l2⟩:=o1.store1 (P:=Tryz.prog) (frz:=frz) (et:=3) (ag:=false) (x:=.int .i64 K1) (by simp) (j:=i) (c:=1) (y:=(K,K1,z.2.2)) (by simpa using hy) (by decide) rfl rfl (by simp [Xp]) hf
  obtain ⟨H3,s3,o3,c3,l3⟩:=o2.store1 (P:=Tryz.prog) (frz:=frz) (et:=3) (ag:=false) (x:=.int .i64 K2) (by simp) (j:=i) (c:=2) (y:=(K,K1,K2,z.2.2.2)) (by simpa using hy) (by decide) rfl rfl (by simp [Xp]) hf
  obtain ⟨H4,s4,o4,c4,l4⟩:=o3.store1 (P:=Tryz.prog) (frz:=frz) (et:=4) (ag:=false) (x:=.bool B3) (by simp) (j:=i) (c:=3) (y:=(K,K1,K2,B3,z.2.2.2.2)) (by simpa using hy) (by decide) rfl rfl (by simp [Xp]) hf
  obtain ⟨H5,s5,o5,c5,l5⟩:=o4.store1 (P:=Tryz.prog) (frz:=frz) (et:=4) (ag:=false) (x:=.bool B4) (by simp) (j:=i) (c:=4) (y:=(K,K1,K2,B3,B4)) (by simpa using hy) (by decide) rfl rfl (by simp [Xp]) hf
  have i0:=ix o hy
  have i1:=ix o1 (by simpa using hy)
  have i2:=ix o2 (by simpa using hy)
  have i3:=ix o3 (by simpa using hy)
  have i4:=ix o4 (by simpa using hy)
  have f0:=(fa o hy).1
  have f1:=(fa o1 (by simpa using hy)).2.1
  have f2:=(fa o2 (by simpa using hy)).2.2.1
  have f3:=(fa o3 (by simpa using hy)).2.2.2.1
  have f4:=(fa o4 (by simpa using hy)).2.2.2.2
  simp only [Int.toNat_natCast,Ty,Nat.add_zero] at i0 i1 i2 i3 i4 s1 s2 s3 s4 s5 f0
  have e3:∀[Inhabited Unit],(decide (K3.tmod 3=0))=B3:=by intro _;exact hB3.symm
  have e4:∀[Inhabited Unit],(decide (K4.tmod 3=0))=B4:=by intro _;exact hB4.symm
  simp [-Qy,Wr,h0,h1,h5,i0,i1,i2,i3,i4,f0,f1,f2,f3,f4,s1,s2,s3,s4,s5,w1,w2,w3,w4,w5,e3,e4]
  refine ih (xs.length-(i+1)) _ _ ⟨i+1,rfl,by omega,by simp [h0],?_,?_,?_,(((((c.trans c1).trans c2).trans c3).trans c4).trans c5),by omega⟩ (by omega)
  ·simp
  ·simp;rw [Q0 (by omega) (by omega)]
  ·rw [← hms,hmk];simpa only [List.set_set] using o5
 ·have:i=xs.length:=by omega
  subst this
  simp [h0,h1,h5]
  exact ⟨by simpa using o,c,l⟩
theorem Pu:∀(hs:List Value),(hs.flatMap ids).Nodup→∀{i j:Nat} {a b:Value},i≠j→hs[i]? = some a→hs[j]? = some b→∀x∈ids a,x∉ids b
 | [],_,i,j,a,b,_,h1,_=>by simp at h1
 | c::hs,nd,i,j,a,b,hij,h1,h2=>by
  rw [List.flatMap_cons] at nd
  obtain ⟨n1,n2,n3⟩:=List.nodup_append.1 nd
  intro x hx hx'
  cases i with
  | zero=>
   cases j with
   | zero=>exact absurd rfl hij
   | succ j=>
    simp at h1 h2
    subst h1
    exact n3 x hx x (List.mem_flatMap.2 ⟨b,List.mem_of_getElem? h2,hx'⟩) rfl
  | succ i=>
   cases j with
   | zero=>
    simp at h1 h2
    subst h2
    exact n3 x hx' x (List.mem_flatMap.2 ⟨a,List.mem_of_getElem? h1,hx⟩) rfl
   | succ j=>exact Pu hs n2 (i:=i) (j:=j) (fun e=>hij (by omega)) (by simpa using h1) (by simpa using h2) x hx hx'
theorem Qhn {α:Type} {D:Fl α} {e oe:TypeId} {H H':Qd} {v a:Value} {hs:List Value} {xss:List (List α)} {i:Nat} {ys:List α} (h:Cp D e oe H v hs xss) (hi:i<xss.length) (ha:hs[i]? = some a) (c:Qp H H' (ids a)) (o:Ow D e H' a ys) (nd:(T5 v hs).Nodup) :
 Cp D e oe H' v hs (xss.set i ys):=by
 obtain ⟨n1,n2,n3⟩:=List.nodup_append.1 nd
 refine ⟨h.1.chg c fun x hx hh=>n3 x hx x (List.mem_flatMap.2 ⟨a,List.mem_of_getElem? ha,hh⟩) rfl,by simpa using h.2.1,fun j b zs hb hz=>?_⟩
 by_cases hji:i=j
 ·subst hji
  rw [ha] at hb;cases hb
  rw [List.getElem?_set_self hi] at hz;cases hz
  exact o
 ·rw [List.getElem?_set_ne hji] at hz
  exact (h.2.2 j b zs hb hz).chg c (Pu hs n2 (Ne.symm hji) hb ha)
def ahead (a:X9) (i:Nat):Nat:=((a.take i).map List.length).sum
def nf (k:Int) (a:X9):Nat→X9
 | 0=>[]
 | i+1=>nf k a i++[Z1 (k+5*(ahead a i:Int)) (a.getD i []).length]
@[simp] theorem B9 (k:Int) (a:X9):∀i,(nf k a i).length=i
 | 0=>rfl
 | i+1=>by simp [nf,B9 k a i]
theorem Ar (k:Int) (a:X9) {i:Nat}:∀n (h:i<n),(nf k a n)[i]'(by simpa using h)=Z1 (k+5*(ahead a i:Int)) (a.getD i []).length
 | 0,h=>by omega
 | n+1,h=>by
  simp only [nf]
  by_cases hi:i<n
  ·rw [List.getElem_append_left (by simpa using hi)];exact Ar k a n hi
  ·have:i=n:=by omega
   subst this
   rw [List.getElem_append_right (by simp)];simp
theorem Qht (k:Int) (a:X9) {i:Nat} (h:i<a.length):(nf k a i++a.drop i).set i (Z1 (k+5*(ahead a i:Int)) (a.getD i []).length)=nf k a (i+1)++a.drop (i+1):=by
 rw [List.set_append_right _ _ (by simp),B9,Nat.sub_self,List.drop_eq_getElem_cons h,List.set_cons_zero,nf]
 simp
theorem Rc (a:X9) {i:Nat} (h:i<a.length):ahead a (i+1)=ahead a i+(a.getD i []).length:=by
 unfold ahead;rw [zh a h,List.getD_eq_getElem?_getD,List.getElem?_eq_getElem h];rfl
theorem Su (a:X9) (h2:∀xs∈a,xs.length≤67108864):∀i,i≤a.length→ahead a i≤67108864*i
 | 0,_=>by simp [ahead]
 | i+1,h=>by
  have:=Su a h2 i (by omega)
  have hm:=h2 _ (List.getElem_mem (show i<a.length by omega))
  rw [Rc a (by omega),List.getD_eq_getElem?_getD,List.getElem?_eq_getElem (by omega)]
  simp;omega
theorem xt (v:Value) (n:Nat) (k:Int) (h:Rd Yh H v (Z1 k n)) (hl:n≤67108864) (hk:0≤k∧k≤4611686018427387904) :
 Qh C frz 153 [v,.int .i64 k] H=some (.int .i64 (k+5*n),H):=by
 refine wp.exact (by simp) ?_ rfl
 rw [Qb (fn:=Tryz.f153) Tryz.func153 rfl (by kernel_rfl) rfl]
 have ll:=h.len (P:=Tryz.prog) (ty:=145) (by simp)
 rw [Oc] at ll
 simp
 refine Qw (fun m t H'=>∃i:Nat,m=n-i∧i≤n∧t 0=v∧t 1=.int .i64 (k+5*i)∧t 5=.int .i64 i∧H'=H) ?_ (n:=n) ⟨0,rfl,by omega,by simp,by simp,by simp,rfl⟩
 rintro m t H' ⟨i,rfl,hi,h0,h1,h5,rfl⟩ ih
 simp [h0,h1,h5,ll]
 refine Qm ?_ ?_<;>intro h6
 ·have hi':i<n:=by omega
  have hy:i<(Z1 k n).length:=by simpa using hi'
  obtain ⟨K,hK⟩:∃K,K=k+5*(i:Int):=⟨_,rfl⟩
  obtain ⟨K1,hK1⟩:∃K1,K1=K+1:=⟨_,rfl⟩
  obtain ⟨K2,hK2⟩:∃K1,K1=K+2:=⟨_,rfl⟩
  obtain ⟨K3,hK3⟩:∃K1,K1=K+3:=⟨_,rfl⟩
  obtain ⟨K4,hK4⟩:∃K1,K1=K+4:=⟨_,rfl⟩
  obtain ⟨B3,hB3⟩:∃B,B=decide (K3.tmod 3=0):=⟨_,rfl⟩
  obtain ⟨B4,hB4⟩:∃B,B=decide (K4.tmod 3=0):=⟨_,rfl⟩
  have hmk:(Z1 k n)[i]=(K,K1,K2,B3,B4):=by rw [Dd k n hi',hB3,hB4,hK1,hK2,hK3,hK4,hK];rfl
  have w1:∀[Inhabited Unit],IntKind.i64.wrap (K+1)=K1:=by intro _;rw [Q0 (by omega) (by omega),hK1]
  have w2:∀[Inhabited Unit],IntKind.i64.wrap (K1+1)=K2:=by intro _;rw [Q0 (by omega) (by omega)];omega
  have w3:∀[Inhabited Unit],IntKind.i64.wrap (K2+1)=K3:=by intro _;rw [Q0 (by omega) (by omega)];omega
  have w4:∀[Inhabited Unit],IntKind.i64.wrap (K3+1)=K4:=by intro _;rw [Q0 (by omega) (by omega)];omega
  have w5:∀[Inhabited Unit],IntKind.i64.wrap (K4+1)=k+5*((i+1:Nat):Int):=by intro _;rw [Q0 (by omega) (by omega)];omega
  rw [← hK] at h1
  have i0:=h.idx (P:=Tryz.prog) (ty:=145) (e:=148) (by simp) (i:=(i:Int)) (by omega) (by omega)
  have f0:=h.field (P:=Tryz.prog) (s:=148) (f:=0) (o:=0) (n:=1) (ag:=false) (by simp) (j:=i*5) (by omega)
  have f1:=h.field (P:=Tryz.prog) (s:=148) (f:=1) (o:=1) (n:=1) (ag:=false) (by simp) (j:=i*5) (by omega)
  have f2:=h.field (P:=Tryz.prog) (s:=148) (f:=2) (o:=2) (n:=1) (ag:=false) (by simp) (j:=i*5) (by omega)
  have f3:=h.field (P:=Tryz.prog) (s:=148) (f:=3) (o:=3) (n:=1) (ag:=false) (by simp) (j:=i*5) (by omega)
  have f4:=h.field (P:=Tryz.prog) (s:=148) (f:=4) (o:=4) (n:=1) (ag:=false) (by simp) (j:=i*5) (by omega)
  have c0:=h.cell (P:=Tryz.prog) (e:=3) (by simp) hy (c:=0) (by decide)
  have c1:=h.cell (P:=Tryz.prog) (e:=3) (by simp) hy (c:=1) (by decide)
  have c2:=h.cell (P:=Tryz.prog) (e:=3) (by simp) hy (c:=2) (by decide)
  have c3:=h.cell (P:=Tryz.prog) (e:=4) (by simp) hy (c:=3) (by decide)
  have c4:=h.cell (P:=Tryz.prog) (e:=4) (by simp) hy (c:=4) (by decide)
  rw [hmk] at c0 c1 c2 c3 c4
  simp only [Int.toNat_natCast,Ty,Xp,Nat.add_zero] at i0 f0 c0 c1 c2 c3 c4
  simp at c0 c1 c2 c3 c4
  have e3:∀[Inhabited Unit],(decide (K3.tmod 3=0))=B3:=by intro _;exact hB3.symm
  have e4:∀[Inhabited Unit],(decide (K4.tmod 3=0))=B4:=by intro _;exact hB4.symm
  simp [-Qy,Wr,h0,h1,h5,i0,f0,f1,f2,f3,f4,c0,c1,c2,c3,c4,w1,w2,w3,w4,w5,e3,e4]
  refine ih (n-(i+1)) _ _ ⟨i+1,rfl,by omega,by simp [h0],?_,?_,rfl⟩ (by omega)
  ·simp
  ·simp;rw [Q0 (by omega) (by omega)]
 ·have:i=n:=by omega
  subst this
  simp [h0,h1,h5]
theorem A5 (v:I5) (a:X9) (k:Int) (h:Qt.Ow H v (nf k a a.length)) (h1:a.length≤2097152) (h2:∀xs∈a,xs.length≤67108864) (hk:0≤k∧k≤2305843009213693952) :
 Qh C frz 90 [v.1,.int .i64 k] H=some (.int .i64 (k+5*(ahead a a.length:Int)),H):=by
 refine wp.exact (by simp) ?_ rfl
 rw [Qb (fn:=Tryz.f90) Tryz.func90 rfl (by kernel_rfl) rfl]
 have rd:=h.1.rd
 have ll:=rd.1.len (P:=Tryz.prog) (ty:=46) (by simp)
 have el:=rd.2.1
 rw [B9] at el
 rw [el] at ll
 simp
 refine Qw (fun m t H'=>∃i:Nat,m=a.length-i∧i≤a.length∧t 0=v.1∧t 1=.int .i64 (k+5*(ahead a i:Int))∧t 5=.int .i64 i∧H'=H) ?_ (n:=a.length) ⟨0,rfl,by omega,by simp,by simp [ahead],by simp,rfl⟩
 rintro m t H' ⟨i,rfl,hi,t0,t1,t5,rfl⟩ ih
 simp [t0,t1,t5,ll]
 refine Qm ?_ ?_<;>intro g
 ·have hi':i<a.length:=by omega
  obtain ⟨u,_,a2,a3,a4⟩:=Xi rd (ty:=46) (e:=145) (by simp) (by simp) (j:=i) (by simpa using hi')
  rw [Ar k a a.length hi'] at a4
  have al:=Su a h2 i (by omega)
  have asx:=Rc a hi'
  have hm:=h2 _ (List.getElem_mem hi')
  have hg:a.getD i []=a[i]:=by simp [List.getD_eq_getElem?_getD,hi']
  rw [hg] at a4 asx
  have hh:=fun F=>xt (frz:=F) u a[i].length _ a4 hm ⟨by omega,by omega⟩
  have f0:¬k+5*(ahead a i:Int)+5*(a[i].length:Int)<0:=by omega
  simp [t0,t1,t5,a2,a3,hh,f0]
  refine ih (a.length-(i+1)) _ _ ⟨i+1,rfl,by omega,by simp [t0],?_,?_,rfl⟩ (by omega)
  ·simp;rw [asx];omega
  ·simp;rw [Q0 (by omega) (by omega)]
 ·have:i=a.length:=by omega
  subst this
  simp [t0,t1,t5]
theorem P8 {v:I5} {a:X9} {k:Int} (h:Qt.Ow H v a) (hd:(Qt.ids v).Nodup) (hk:0≤k∧k≤2305843009213693952) (hf:∀i∈Qt.ids v,frz≤i) :
 wp (Qh C frz 87 [v.1,.int .i64 k] H) (Marks 1125899906842624 Qt 90 H v a k):=by
 rw [Qb (fn:=Tryz.f87) Tryz.func87 rfl (by kernel_rfl) rfl]
 obtain ⟨ho,h1,h2⟩:=h
 simp
 refine Qw (fun m t H'=>∃i:Nat,m=a.length-i∧i≤a.length∧t 0=v.1∧t 1=.int .i64 (k+5*(ahead a i:Int))∧t 5=.int .i64 i∧Cp Yh 148 145 H' v.1 v.2 (nf k a i++a.drop i)∧Qp H H' (Qt.ids v)) ?_ (n:=a.length)
  ⟨0,rfl,by omega,by simp,by simp [ahead],by simp,by simpa [nf] using ho,Qp.refl _⟩
 rintro m t H' ⟨i,rfl,hi,t0,t1,t5,o,c⟩ ih
 have rd:=o.rd
 have ll:=rd.1.len (P:=Tryz.prog) (ty:=46) (by simp)
 have el:=rd.2.1
 have hll:(nf k a i++a.drop i).length=a.length:=by simp;omega
 rw [hll] at el
 rw [el] at ll
 simp [t0,t1,t5,ll]
 refine Qm ?_ ?_<;>intro g
 ·have hi':i<a.length:=by omega
  have hset:=Qht k a hi'
  have hget:(nf k a i++a.drop i)[i]'(by omega)=a[i]:=by rw [List.getElem_append_right (by simp)];simp
  obtain ⟨u,a1,a2,a3,a4⟩:=Xi rd (ty:=46) (e:=145) (by simp) (by simp) (j:=i) (by omega)
  have al:=Su a h2 i (by omega)
  have asx:=Rc a hi'
  have hm:=h2 _ (List.getElem_mem hi')
  have hg:a.getD i []=a[i]:=by simp [List.getD_eq_getElem?_getD,hi']
  rw [hg] at asx hset
  have ou:Ow Yh 148 H' u a[i]:=o.2.2 i u _ a1 (by rw [List.getElem?_eq_getElem (by omega),hget])
  have hfu:∀x∈ids u,frz≤x:=fun x hx=>hf x (Up a1 hx)
  simp [t0,t1,t5,a2,a3]
  refine Ql (zc u a[i] _ _ ou hm ⟨by omega,by omega⟩ hfu) ?_
  rintro _ H1 ⟨rfl,o1,c1,l1⟩
  simp [t0,t1,t5]
  refine ih (a.length-(i+1)) _ _ ⟨i+1,rfl,by omega,by simp [t0],?_,?_,?_,c.trans (c1.mono fun x hx=>Up a1 hx)⟩ (by omega)
  ·simp;rw [asx];omega
  ·simp;rw [Q0 (by omega) (by omega)]
  ·rw [← hset];exact Qhn o (by omega) a1 c1 o1 hd
 ·have:i=a.length:=by omega
  subst this
  have al:=Su a h2 a.length (by omega)
  simp [t0,t1,t5]
  have hob:Qt.Ow H' v (nf k a a.length):=⟨by simpa using o,by simpa using h1,fun xs hx=>by
   obtain ⟨j,hj,rfl⟩:=List.mem_iff_getElem.1 hx
   have hj':j<a.length:=by simpa using hj
   rw [Ar k a a.length hj',Oc]
   have:a.getD j []=a[j]:=by simp [List.getD_eq_getElem?_getD,hj']
   rw [this];exact h2 _ (List.getElem_mem hj')⟩
  exact ⟨5*(ahead a a.length:Int),nf k a a.length,rfl,by omega,rfl,hob,c,fun F H2 h3=>A5 v a k h3 h1 h2 hk⟩
end Go.Proofs.YtlhaeingdonaeaaGreat.V
