/- Texts of a proof, joined. -/
import Derived.Test.YtgemlndinpcdkaaDoorProg
import Derived.KernelRfl
import Derived.Test.YtgemlndinpcdkaaDoorKM0
import Derived.Test.YtgemlndinpcdkaaDoorKM1
namespace Go.Proofs.YtgemlndinpcdkaaDoor.V
open Go Go.VM Go.Proofs
noncomputable def C:Ctx:={ P:=Tryd.prog,mode:=fun g=>if [49,50,68,69,70,90,91].contains g then 2 else if [13,27,35,38,41,44,47,48,60,66,67,81,86,88,89,102,105,109,113,114,115,116].contains g then 1 else 0,ext:=fun _=>none }
@[simp] theorem CP:C.P=Tryd.prog:=rfl
theorem drawn:DrawOk C:=U2 C (by kernel_rfl)
@[simp] theorem mode0:C.mode 0=0:=rfl
@[simp] theorem mode1:C.mode 1=0:=rfl
@[simp] theorem mode2:C.mode 2=0:=rfl
@[simp] theorem mode3:C.mode 3=0:=rfl
@[simp] theorem mode4:C.mode 4=0:=rfl
@[simp] theorem mode5:C.mode 5=0:=rfl
@[simp] theorem mode6:C.mode 6=0:=rfl
@[simp] theorem mode7:C.mode 7=0:=rfl
@[simp] theorem mode8:C.mode 8=0:=rfl
@[simp] theorem mode9:C.mode 9=0:=rfl
@[simp] theorem mode10:C.mode 10=0:=rfl
@[simp] theorem mode11:C.mode 11=0:=rfl
@[simp] theorem mode12:C.mode 12=0:=rfl
@[simp] theorem mode13:C.mode 13=1:=rfl
@[simp] theorem mode14:C.mode 14=0:=rfl
@[simp] theorem mode15:C.mode 15=0:=rfl
@[simp] theorem mode16:C.mode 16=0:=rfl
@[simp] theorem mode17:C.mode 17=0:=rfl
@[simp] theorem mode18:C.mode 18=0:=rfl
@[simp] theorem mode19:C.mode 19=0:=rfl
@[simp] theorem mode20:C.mode 20=0:=rfl
@[simp] theorem mode21:C.mode 21=0:=rfl
@[simp] theorem mode22:C.mode 22=0:=rfl
@[simp] theorem mode23:C.mode 23=0:=rfl
@[simp] theorem mode24:C.mode 24=0:=rfl
@[simp] theorem mode25:C.mode 25=0:=rfl
@[simp] theorem mode26:C.mode 26=0:=rfl
@[simp] theorem mode27:C.mode 27=1:=rfl
@[simp] theorem mode28:C.mode 28=0:=rfl
@[simp] theorem mode29:C.mode 29=0:=rfl
@[simp] theorem mode30:C.mode 30=0:=rfl
@[simp] theorem mode31:C.mode 31=0:=rfl
@[simp] theorem mode32:C.mode 32=0:=rfl
@[simp] theorem mode33:C.mode 33=0:=rfl
@[simp] theorem mode34:C.mode 34=0:=rfl
@[simp] theorem mode35:C.mode 35=1:=rfl
@[simp] theorem mode36:C.mode 36=0:=rfl
@[simp] theorem mode37:C.mode 37=0:=rfl
@[simp] theorem mode38:C.mode 38=1:=rfl
@[simp] theorem mode39:C.mode 39=0:=rfl
@[simp] theorem mode40:C.mode 40=0:=rfl
@[simp] theorem mode41:C.mode 41=1:=rfl
@[simp] theorem mode42:C.mode 42=0:=rfl
@[simp] theorem mode43:C.mode 43=0:=rfl
@[simp] theorem mode44:C.mode 44=1:=rfl
@[simp] theorem mode45:C.mode 45=0:=rfl
@[simp] theorem mode46:C.mode 46=0:=rfl
@[simp] theorem mode47:C.mode 47=1:=rfl
@[simp] theorem mode48:C.mode 48=1:=rfl
@[simp] theorem mode49:C.mode 49=2:=rfl
@[simp] theorem mode50:C.mode 50=2:=rfl
@[simp] theorem mode51:C.mode 51=0:=rfl
@[simp] theorem mode52:C.mode 52=0:=rfl
@[simp] theorem mode53:C.mode 53=0:=rfl
@[simp] theorem mode54:C.mode 54=0:=rfl
@[simp] theorem mode55:C.mode 55=0:=rfl
@[simp] theorem mode56:C.mode 56=0:=rfl
@[simp] theorem mode57:C.mode 57=0:=rfl
@[simp] theorem mode58:C.mode 58=0:=rfl
@[simp] theorem mode59:C.mode 59=0:=rfl
@[simp] theorem mode60:C.mode 60=1:=rfl
@[simp] theorem mode61:C.mode 61=0:=rfl
@[simp] theorem mode62:C.mode 62=0:=rfl
@[simp] theorem mode63:C.mode 63=0:=rfl
@[simp] theorem mode64:C.mode 64=0:=rfl
@[simp] theorem mode65:C.mode 65=0:=rfl
@[simp] theorem mode66:C.mode 66=1:=rfl
@[simp] theorem mode67:C.mode 67=1:=rfl
@[simp] theorem mode68:C.mode 68=2:=rfl
@[simp] theorem mode69:C.mode 69=2:=rfl
@[simp] theorem mode70:C.mode 70=2:=rfl
@[simp] theorem mode71:C.mode 71=0:=rfl
@[simp] theorem mode72:C.mode 72=0:=rfl
@[simp] theorem mode73:C.mode 73=0:=rfl
@[simp] theorem mode74:C.mode 74=0:=rfl
@[simp] theorem mode75:C.mode 75=0:=rfl
@[simp] theorem mode76:C.mode 76=0:=rfl
@[simp] theorem mode77:C.mode 77=0:=rfl
@[simp] theorem mode78:C.mode 78=0:=rfl
@[simp] theorem mode79:C.mode 79=0:=rfl
@[simp] theorem mode80:C.mode 80=0:=rfl
@[simp] theorem mode81:C.mode 81=1:=rfl
@[simp] theorem mode82:C.mode 82=0:=rfl
@[simp] theorem mode83:C.mode 83=0:=rfl
@[simp] theorem mode84:C.mode 84=0:=rfl
@[simp] theorem mode85:C.mode 85=0:=rfl
@[simp] theorem mode86:C.mode 86=1:=rfl
@[simp] theorem mode87:C.mode 87=0:=rfl
@[simp] theorem mode88:C.mode 88=1:=rfl
@[simp] theorem mode89:C.mode 89=1:=rfl
@[simp] theorem mode90:C.mode 90=2:=rfl
@[simp] theorem mode91:C.mode 91=2:=rfl
@[simp] theorem mode92:C.mode 92=0:=rfl
@[simp] theorem mode93:C.mode 93=0:=rfl
@[simp] theorem mode94:C.mode 94=0:=rfl
@[simp] theorem mode95:C.mode 95=0:=rfl
@[simp] theorem mode96:C.mode 96=0:=rfl
@[simp] theorem mode97:C.mode 97=0:=rfl
@[simp] theorem mode98:C.mode 98=0:=rfl
@[simp] theorem mode99:C.mode 99=0:=rfl
@[simp] theorem mode100:C.mode 100=0:=rfl
@[simp] theorem mode101:C.mode 101=0:=rfl
@[simp] theorem mode102:C.mode 102=1:=rfl
@[simp] theorem mode103:C.mode 103=0:=rfl
@[simp] theorem mode104:C.mode 104=0:=rfl
@[simp] theorem mode105:C.mode 105=1:=rfl
@[simp] theorem mode106:C.mode 106=0:=rfl
@[simp] theorem mode107:C.mode 107=0:=rfl
@[simp] theorem mode108:C.mode 108=0:=rfl
@[simp] theorem mode109:C.mode 109=1:=rfl
@[simp] theorem mode110:C.mode 110=0:=rfl
@[simp] theorem mode111:C.mode 111=0:=rfl
@[simp] theorem mode112:C.mode 112=0:=rfl
@[simp] theorem mode113:C.mode 113=1:=rfl
@[simp] theorem mode114:C.mode 114=1:=rfl
@[simp] theorem mode115:C.mode 115=1:=rfl
@[simp] theorem mode116:C.mode 116=1:=rfl
@[simp] theorem mode117:C.mode 117=0:=rfl
@[simp] theorem mode118:C.mode 118=0:=rfl
@[simp] theorem mode119:C.mode 119=0:=rfl
@[simp] theorem mode120:C.mode 120=0:=rfl
@[simp] theorem mode121:C.mode 121=0:=rfl
@[simp] theorem mode122:C.mode 122=0:=rfl
@[simp] theorem mode123:C.mode 123=0:=rfl
@[simp] theorem mode124:C.mode 124=0:=rfl
@[simp] theorem mode125:C.mode 125=0:=rfl
@[simp] theorem mode126:C.mode 126=0:=rfl
@[simp] theorem mode127:C.mode 127=0:=rfl
@[simp] theorem mode128:C.mode 128=0:=rfl
@[simp] theorem mode129:C.mode 129=0:=rfl
@[simp] theorem mode130:C.mode 130=0:=rfl
@[simp] theorem mode131:C.mode 131=0:=rfl
@[simp] theorem mode132:C.mode 132=0:=rfl
@[simp] theorem mode133:C.mode 133=0:=rfl
@[simp] theorem mode134:C.mode 134=0:=rfl
@[simp] theorem mode135:C.mode 135=0:=rfl
@[simp] theorem mode136:C.mode 136=0:=rfl
@[simp] theorem mode137:C.mode 137=0:=rfl
@[simp] theorem mode138:C.mode 138=0:=rfl
@[simp] theorem mode139:C.mode 139=0:=rfl
@[simp] theorem mode140:C.mode 140=0:=rfl
@[simp] theorem mode141:C.mode 141=0:=rfl
@[simp] theorem mode142:C.mode 142=0:=rfl
@[simp] theorem mode143:C.mode 143=0:=rfl
@[simp] theorem mode144:C.mode 144=0:=rfl
@[simp] theorem mode145:C.mode 145=0:=rfl
@[simp] theorem mode146:C.mode 146=0:=rfl
@[simp] theorem mode147:C.mode 147=0:=rfl
@[simp] theorem mode148:C.mode 148=0:=rfl
@[simp] theorem mode149:C.mode 149=0:=rfl
@[simp] theorem mode150:C.mode 150=0:=rfl
@[simp] theorem mode151:C.mode 151=0:=rfl
@[simp] theorem mode152:C.mode 152=0:=rfl
@[simp] theorem mode153:C.mode 153=0:=rfl
@[simp] theorem mode154:C.mode 154=0:=rfl
@[simp] theorem mode155:C.mode 155=0:=rfl
@[simp] theorem mode156:C.mode 156=0:=rfl
@[simp] theorem mode157:C.mode 157=0:=rfl
@[simp] theorem mode158:C.mode 158=0:=rfl
@[simp] theorem mode159:C.mode 159=0:=rfl
@[simp] theorem mode160:C.mode 160=0:=rfl
@[simp] theorem mode161:C.mode 161=0:=rfl
@[simp] theorem mode162:C.mode 162=0:=rfl
@[simp] theorem mode163:C.mode 163=0:=rfl
@[simp] theorem mode164:C.mode 164=0:=rfl
@[simp] theorem mode165:C.mode 165=0:=rfl
@[simp] theorem tsz3:tsz Tryd.prog 3=some (false,1):=by kernel_rfl
@[simp] theorem tzero3:tzero Tryd.prog 3=some [.int .i64 0]:=by kernel_rfl
@[simp] theorem tzero5:tzero Tryd.prog 5=some [.int .u8 0]:=by kernel_rfl
@[simp] theorem tsz9:tsz Tryd.prog 9=some (false,1):=by kernel_rfl
@[simp] theorem tzero9:tzero Tryd.prog 9=some [.string .empty]:=by kernel_rfl
@[simp] theorem tsz37:tsz Tryd.prog 37=some (true,2):=by kernel_rfl
@[simp] theorem N3:finfo Tryd.prog 37 0=some (0,false,1):=by kernel_rfl
@[simp] theorem Nz:finfo Tryd.prog 37 1=some (1,false,1):=by kernel_rfl
@[simp] theorem tsz38:tsz Tryd.prog 38=some (false,1):=by kernel_rfl
@[simp] theorem eltp38:eltp Tryd.prog 38=some (3,1):=by kernel_rfl
@[simp] theorem isSl38:isSl Tryd.prog 38=true:=by kernel_rfl
@[simp] theorem tsz40:tsz Tryd.prog 40=some (true,3):=by kernel_rfl
@[simp] theorem N7:finfo Tryd.prog 40 0=some (0,true,2):=by kernel_rfl
@[simp] theorem Mj:finfo Tryd.prog 40 1=some (2,false,1):=by kernel_rfl
@[simp] theorem tsz43:tsz Tryd.prog 43=some (true,2):=by kernel_rfl
@[simp] theorem tzero43:tzero Tryd.prog 43=some [.int .i64 0,.int .i64 0]:=by kernel_rfl
@[simp] theorem Ns:finfo Tryd.prog 43 0=some (0,false,1):=by kernel_rfl
@[simp] theorem N6:finfo Tryd.prog 43 1=some (1,false,1):=by kernel_rfl
@[simp] theorem tsz45:tsz Tryd.prog 45=some (true,3):=by kernel_rfl
@[simp] theorem tzero45:tzero Tryd.prog 45=some [.int .i64 0,.int .i64 0,.slice none 0 0]:=by kernel_rfl
@[simp] theorem Mg:finfo Tryd.prog 45 0=some (0,true,2):=by kernel_rfl
@[simp] theorem Nu:finfo Tryd.prog 45 1=some (2,false,1):=by kernel_rfl
@[simp] theorem eltp55:eltp Tryd.prog 55=some (5,1):=by kernel_rfl
@[simp] theorem eltp75:eltp Tryd.prog 75=some (9,1):=by kernel_rfl
@[simp] theorem tzero90:tzero Tryd.prog 90=some [.string .empty,.string .empty,.string .empty,.string .empty,.string .empty]:=by kernel_rfl
end Go.Proofs.YtgemlndinpcdkaaDoor.V
set_option linter.all false
namespace Go.Proofs.YtgemlndinpcdkaaDoor.V
open Go Go.VM Go.Proofs
set_option maxRecDepth 10000
variable {frz:Nat} {H:Heap}
def bI (b:ByteArray):List Int:=b.data.toList.map fun x=>(x.toNat:Int)
theorem Rs (a b:ByteArray):bI (a++b)=bI a++bI b:=by simp [bI,ByteArray.data_append]
theorem Tu (b:ByteArray):(bI b).length=b.size:=by unfold bI;rw [List.length_map,Array.length_toList];rfl
theorem Ng (b:ByteArray):strOfNums (bI b)=b:=by
 unfold strOfNums bI
 apply ByteArray.ext
 apply Array.toList_inj.1
 simp [List.map_map,Function.comp_def]
theorem U7 (b:ByteArray):byteCells b=cellsOf Fl.u8 (bI b):=by
 unfold byteCells bI
 induction b.data.toList with
 | nil=>rfl
 | cons x l ih=>
  simp only [List.map_cons,ih]
  rfl
theorem Rk (xs:List Int):(cellsOf Fl.u8 xs).length=xs.length:=by rw [Qp];exact Nat.mul_one _
theorem To (b:ByteArray):ones (byteCells b)=true:=by
 unfold byteCells
 induction b.data.toList with
 | nil=>rfl
 | cons x l ih=>simpa [ones] using ih
theorem Va {P:Program} {e ty u:TypeId} {v:Value} {xs:List Int} {b:ByteArray} (h:Ow Fl.u8 e H v xs) (he:eltp P ty=some (e,1)) (hs:isStr P u=true) (hu:isU8 P e=true) (hl:xs.length+b.size≤1073741824) (hf:∀i∈ids v,frz≤i) :
 ∃v' H',vappS P frz H ty u v b=some (v',H')∧Ow Fl.u8 e H' v' (xs++bI b)∧Chg H H' (ids v)∧∀i∈ids v',i∈ids v∨H.length≤i:=by
 have hbl:=Tu b
 have hbc:=U7 b
 have ho:=To b
 by_cases hy:b.size=0
 ·have e0:bI b=[]:=List.length_eq_zero_iff.1 (by omega)
  refine ⟨v,H,?_,by simpa [e0] using h,Chg.refl _,fun i hi=>.inl hi⟩
  rcases h with ⟨rfl,rfl⟩|⟨id,off,r,rfl,h2,h3,h4⟩
  ·simp [vappS,he,hs,hu,hy]
  ·simp [vappS,he,hs,hu,hy,VM.look,h2]
 ·rcases h with ⟨rfl,rfl⟩|⟨id,off,r,rfl,h2,h3,h4,h5,h6⟩
  ·refine ⟨.slice (some ⟨H.length,0,some 0⟩) b.size 0,H++[⟨byteCells b,0,e⟩],?_,.inr ⟨H.length,0,⟨byteCells b,0,e⟩,by simp [hbl],by simp,?_,?_,rfl,ho⟩,Chg.app _,fun i hi=>.inr (by simp at hi;omega)⟩
   ·have:b.size≤1073741824:=by simpa using hl
    simp [vappS,he,hs,hu,hy,this]
   ·simp [hbc];rw [List.take_of_length_le (by rw [Rk];omega)]
   ·simp [hbc,Rk]
  ·refine ⟨.slice (some ⟨id,0,some (r.gen+1)⟩) (xs.length+b.size) 0,H.set id ⟨vkeep r.cells off xs.length++byteCells b,r.gen+1,e⟩,?_,.inr ⟨id,0,⟨vkeep r.cells off xs.length++byteCells b,r.gen+1,e⟩,by simp [hbl],?_,?_,?_,rfl,?_⟩,⟨by simp,fun i hl hi=>?_⟩,fun i hi=>.inl (by simpa using hi)⟩
   ·have hf':frz≤id:=hf id (by simp)
    have h4':off+xs.length≤r.cells.length:=by have:xs.length*Fl.u8.n=xs.length:=Nat.mul_one _;omega
    simp [vappS,he,hs,hu,hy,VM.look,h2,hf',h4',h5,h6,hl]
   ·have:=(List.getElem?_eq_some_iff.1 h2).1
    simp [this]
   ·have e1:xs.length=xs.length*Fl.u8.n:=(Nat.mul_one _).symm
    rw [Wd,e1,h3,List.drop_zero,hbc,← Wi,← Qp,List.take_length]
   ·have e1:xs.length=xs.length*Fl.u8.n:=(Nat.mul_one _).symm
    rw [Wd,e1,h3,hbc,← Wi,Qp];simp
   ·rw [Wd];simp [Yl _ _ (Yc _ _ h6),ho]
   ·have:i≠id:=fun hh=>hi (by simp [hh])
    rw [List.getElem?_set_ne (fun hh=>this hh.symm)]
theorem Uq (xs:List Int):byteNs (cellsOf Fl.u8 xs)=some xs:=by
 induction xs with
 | nil=>rfl
 | cons x l ih=>show (byteNs (cellsOf Fl.u8 l)).map (x::·)=_;rw [ih];rfl
theorem Nc {P:Program} {s d e:TypeId} {v:Value} {xs:List Int} {b:ByteArray} (h:Rd Fl.u8 H v xs) (hx:xs=bI b) (hs:P.underlying s=some (.slice e)) (hu:isU8 P e=true) (hd:isStr P d=true):vbytes P s d H v=some (.string b):=by
 have:=h.src
 unfold vbytes
 simp only [hs,hu,hd]
 have h1:vsrc 1 H v=some (xs.length,cellsOf Fl.u8 xs):=this
 simp [h1,Uq,hx,Ng]
end Go.Proofs.YtgemlndinpcdkaaDoor.V
set_option linter.all false
namespace Go.Proofs.YtgemlndinpcdkaaDoor.V
open Go Go.VM
def rd (b:List Int) (j:Int):Int:=b.getD j.toNat 0
def inR (lo n hi:Int):Prop:=lo≤n∧n≤hi
instance (lo n hi:Int):Decidable (inR lo n hi):=inferInstanceAs (Decidable (_∧_))
def okG (w h:Int):Prop:=(1≤w∧w≤4)∧1≤h∧h≤4
instance (w h:Int):Decidable (okG w h):=inferInstanceAs (Decidable (_∧_))
def cnt (w h:Int):Int:=if okG w h then w*h else 0
def isN (w h n:Int):Prop:=0≤n∧n<cnt w h
instance (w h n:Int):Decidable (isN w h n):=inferInstanceAs (Decidable (_∧_))
def nodeAt (w h x y:Int):Int:=if okG w h∧(0≤x∧x<w)∧0≤y∧y<h then y*w+x else -1
def next (w h n p:Int):Int:=
 if isN w h n then
  (if p=0 then nodeAt w h (n%w) (n/w-1) else if p=1 then nodeAt w h (n%w+1) (n/w) else if p=2 then nodeAt w h (n%w) (n/w+1)
   else if p=3 then nodeAt w h (n%w-1) (n/w) else if p=4 then n else -1)
 else -1
def leads (w h c:Int):Prop:=(0≤c∧c<4*cnt w h)∧0≤next w h (c/4) (c%4)
instance (w h c:Int):Decidable (leads w h c):=inferInstanceAs (Decidable (_∧_))
def opp (p:Int):Int:=if p=4 then 4 else if 0≤p∧p≤3 then (p+2)%4 else -1
def goodAt (w h:Int) (b:List Int) (j:Nat):Prop:=leads w h (b.getD j 0)∧(0<j→b.getD (j-1) 0<b.getD j 0)
instance (w h:Int) (b:List Int) (j:Nat):Decidable (goodAt w h b j):=inferInstanceAs (Decidable (_∧_))
def meshOk (w h:Int) (b:List Int):Prop:=(∀j,j<b.length→goodAt w h b j)∧okG w h
instance (w h:Int) (b:List Int):Decidable (meshOk w h b):=inferInstanceAs (Decidable (_∧_))
def has (w h:Int) (b:List Int) (c:Int):Prop:=leads w h c∧c∉b
instance (w h:Int) (b:List Int) (c:Int):Decidable (has w h b c):=inferInstanceAs (Decidable (_∧_))
theorem Qy {w h:Int} (h1:okG w h):1≤w*h∧w*h≤16:=by
 obtain ⟨⟨a1,a2⟩,b1,b2⟩:=h1
 have c1:1*1≤w*h:=Int.mul_le_mul a1 b1 (by omega) (by omega)
 have c2:w*h≤4*4:=Int.mul_le_mul a2 b2 (by omega) (by omega)
 omega
theorem Wa (w h:Int):0≤cnt w h∧cnt w h≤16:=by
 unfold cnt;split
 ·rename_i h1;have:=Qy h1;omega
 ·omega
theorem Ta {w h n:Int} (h1:isN w h n):okG w h∧0≤n∧n<w*h∧n<16:=by
 obtain ⟨a,b⟩:=h1
 have:=Wa w h
 unfold cnt at b;split at b
 ·rename_i hg;have:=Qy hg;exact ⟨hg,a,b,by omega⟩
 ·omega
theorem w64 {x:Int} (h1 : -9223372036854775808≤x) (h2:x≤9223372036854775807):IntKind.i64.wrap x=x:=by rw [IntKind.wrap_i64];omega
theorem w6 (x:Int) (h : -9223372036854775808≤x∧x≤9223372036854775807):∀[Inhabited Unit],IntKind.i64.wrap x=x:=by intro _;exact w64 h.1 h.2
end Go.Proofs.YtgemlndinpcdkaaDoor.V
set_option linter.all false
namespace Go.Proofs.YtgemlndinpcdkaaDoor.V
open Go Go.VM Go.Proofs
set_option maxRecDepth 100000
variable {frz:Nat} {H:Heap}
def decB (n:Nat):ByteArray:=if n<10 then ⟨#[UInt8.ofNat (48+n)]⟩ else ⟨#[UInt8.ofNat (48+n/10),UInt8.ofNat (48+n%10)]⟩
def digB:ByteArray:=⟨#[48,49,50,51,52,53,54,55,56,57,97,98,99,100,101,102,103,104,105,106,107,108,109,110,111,112,113,114,115,116,117,118,119,120,121,122]⟩
def smaB:ByteArray:=⟨#[48,48,48,49,48,50,48,51,48,52,48,53,48,54,48,55,48,56,48,57,49,48,49,49,49,50,49,51,49,52,49,53,49,54,49,55,49,56,49,57,50,48,50,49,50,50,50,51,50,52,50,53,50,54,50,55,50,56,50,57,51,48,51,49,51,50,51,51,51,52,51,53,51,54,51,55,51,56,51,57,52,48,52,49,52,50,52,51,52,52,52,53,52,54,52,55,52,56,52,57,53,48,53,49,53,50,53,51,53,52,53,53,53,54,53,55,53,56,53,57,54,48,54,49,54,50,54,51,54,52,54,53,54,54,54,55,54,56,54,57,55,48,55,49,55,50,55,51,55,52,55,53,55,54,55,55,55,56,55,57,56,48,56,49,56,50,56,51,56,52,56,53,56,54,56,55,56,56,56,57,57,48,57,49,57,50,57,51,57,52,57,53,57,54,57,55,57,56,57,57]⟩
theorem Pi:((List.range 10).all fun n=>(digB.extract n (n+1)).data == (decB n).data)=true:=by kernel_rfl
theorem P0:((List.range 100).all fun n=>decide (n<10) || (smaB.extract (n*2) (n*2+2)).data == (decB n).data)=true:=by kernel_rfl
theorem O8 {n:Nat} (h:n<10):digB.extract n (n+1)=decB n:=by
 have:=Pi
 rw [List.all_eq_true] at this
 exact ByteArray.ext (eq_of_beq (this n (List.mem_range.2 h)))
theorem Oy {n:Nat} (h:n<100) (h1:¬n<10):smaB.extract (n*2) (n*2+2)=decB n:=by
 have:=P0
 rw [List.all_eq_true] at this
 have:=this n (List.mem_range.2 h)
 rw [decide_eq_false h1,Bool.false_or] at this
 exact ByteArray.ext (eq_of_beq this)
theorem Y6 {P:Program} {t:TypeId} (s:ByteArray) {i j:Int} (hs:isStr P t=true) (h0:0≤i) (h1:i≤j) (h2:j≤s.size):vslice P H t (some (.int .i64 i)) (some (.int .i64 j)) (.string s)=some (.string (s.extract i.toNat j.toNat)):=by
 simp [vslice,vbound,hs,h0,h1,h2]
theorem P4 (n:Nat) (h:n<100):wp (vcall C frz 106 [.int .i64 n] H) (fun r _=>r=.string (decB n)):=by
 rw [Qb (fn:=Tryd.f106) Tryd.func106 rfl (by kernel_rfl) rfl]
 have w1:∀[Inhabited Unit],IntKind.i64.wrap ((n:Int)+1)=(n:Int)+1:=by intro _;rw [w64 (by omega) (by omega)]
 have w2:∀[Inhabited Unit],IntKind.i64.wrap ((n:Int)*2)=(n:Int)*2:=by intro _;rw [w64 (by omega) (by omega)]
 have w3:∀[Inhabited Unit],IntKind.i64.wrap ((n:Int)*2+2)=(n:Int)*2+2:=by intro _;rw [w64 (by omega) (by omega)]
 have hst:isStr Tryd.prog 9=true:=by kernel_rfl
 simp
 refine Wu ?_ ?_<;>intro g
 ·have k1:=Y6 (P:=Tryd.prog) (H:=H) (t:=9) digB (i:=(n:Int)) (j:=(n:Int)+1) hst (by omega) (by omega) (by
   have:digB.size=36:=by kernel_rfl
   omega)
  rw [show ((n:Int)+1).toNat=n+1 by omega,Int.toNat_natCast,O8 (by omega)] at k1
  unfold digB at k1
  simp [w1,k1]
 ·have k1:=Y6 (P:=Tryd.prog) (H:=H) (t:=9) smaB (i:=(n:Int)*2) (j:=(n:Int)*2+2) hst (by omega) (by omega) (by
   have:smaB.size=200:=by kernel_rfl
   omega)
  rw [show ((n:Int)*2+2).toNat=n*2+2 by omega,show ((n:Int)*2).toNat=n*2 by omega,Oy h (by omega)] at k1
  unfold smaB at k1
  simp [w2,w3,k1]
end Go.Proofs.YtgemlndinpcdkaaDoor.V
set_option linter.all false
namespace Go.Proofs.YtgemlndinpcdkaaDoor.V
open Go Go.VM Go.Proofs
set_option maxRecDepth 10000
variable {frz:Nat} {H:Heap}
theorem Wf (n lo hi:Int):vcall C frz 53 [.int .i64 n,.int .i64 lo,.int .i64 hi] H=some (.bool (decide (inR lo n hi)),H):=by
 rw [Qb (fn:=Tryd.f53) Tryd.func53 rfl (by kernel_rfl) rfl]
 simp
 repeat' (first|refine Qs _ _ ?_ ?_|refine Qe _ ?_ ?_)<;>intro h<;>simp [h,inR]
theorem Ww (n lo hi:Int):vcall C frz 42 [.int .i64 n,.int .i64 lo,.int .i64 hi] H=some (.bool (decide (inR lo n hi)),H):=by
 rw [Qb (fn:=Tryd.f42) Tryd.func42 rfl (by kernel_rfl) rfl]
 simp
 repeat' (first|refine Qs _ _ ?_ ?_|refine Qe _ ?_ ?_)<;>intro h<;>simp [h,inR]
theorem Zg (w h:Int):vcall C frz 93 [.agg #[.int .i64 w,.int .i64 h]] H=some (.bool (decide (okG w h)),H):=by
 rw [Qb (fn:=Tryd.f93) Tryd.func93 rfl (by kernel_rfl) rfl]
 simp [Wf]
 refine Qs _ _ ?_ ?_<;>intro h1<;>simp [h1,Wf]
 ·have:okG w h↔inR 1 h 4:=⟨fun g=>g.2,fun g=>⟨h1,g⟩⟩
  simp [this]
 ·exact fun g=>h1 g.1
theorem Yb (w h:Int):vcall C frz 71 [.agg #[.int .i64 w,.int .i64 h]] H=some (.bool (decide (okG w h)),H):=by
 rw [Qb (fn:=Tryd.f71) Tryd.func71 rfl (by kernel_rfl) rfl]
 simp [Ww]
 refine Qs _ _ ?_ ?_<;>intro h1<;>simp [h1,Ww]
 ·have:okG w h↔inR 1 h 4:=⟨fun g=>g.2,fun g=>⟨h1,g⟩⟩
  simp [this]
 ·exact fun g=>h1 g.1
theorem Yn (w h:Int):vcall C frz 94 [.agg #[.int .i64 w,.int .i64 h]] H=some (.int .i64 (cnt w h),H):=by
 rw [Qb (fn:=Tryd.f94) Tryd.func94 rfl (by kernel_rfl) rfl]
 simp [Zg]
 refine Qe _ ?_ ?_<;>intro h1<;>simp [h1,cnt]
 have:=Qy h1
 exact w64 (by omega) (by omega)
theorem X8 (w h:Int):vcall C frz 51 [.agg #[.int .i64 w,.int .i64 h]] H=some (.int .i64 (cnt w h),H):=by
 rw [Qb (fn:=Tryd.f51) Tryd.func51 rfl (by kernel_rfl) rfl]
 simp [Yb]
 refine Qe _ ?_ ?_<;>intro h1<;>simp [h1,cnt]
 have:=Qy h1
 exact w64 (by omega) (by omega)
theorem Sh (w h n:Int):inR 0 n (IntKind.i64.wrap (cnt w h-1))↔isN w h n:=by
 have:=Wa w h
 rw [w64 (by omega) (by omega)]
 simp only [inR,isN];omega
theorem S6 (w h n:Int):vcall C frz 96 [.agg #[.int .i64 w,.int .i64 h],.int .i64 n] H=some (.bool (decide (isN w h n)),H):=by
 rw [Qb (fn:=Tryd.f96) Tryd.func96 rfl (by kernel_rfl) rfl]
 simp [Yn,Wf,Sh]
theorem R5 (w h n:Int):vcall C frz 75 [.agg #[.int .i64 w,.int .i64 h],.int .i64 n] H=some (.bool (decide (isN w h n)),H):=by
 rw [Qb (fn:=Tryd.f75) Tryd.func75 rfl (by kernel_rfl) rfl]
 simp [X8,Ww,Sh]
theorem Rq (w h x y:Int) (h1:okG w h):(inR 0 x (IntKind.i64.wrap (w-1))↔0≤x∧x<w)∧(inR 0 y (IntKind.i64.wrap (h-1))↔0≤y∧y<h):=by
 obtain ⟨⟨a1,a2⟩,b1,b2⟩:=h1
 rw [w64 (by omega) (by omega),w64 (by omega) (by omega)]
 simp only [inR];omega
theorem Rc {w h x y:Int} (h1:okG w h) (h2:0≤x∧x<w) (h3:0≤y∧y<h):IntKind.i64.wrap (IntKind.i64.wrap (y*w)+x)=y*w+x:=by
 have hm:=Qy h1
 obtain ⟨⟨a1,a2⟩,b1,b2⟩:=h1
 have c1:0*0≤y*w:=Int.mul_le_mul h3.1 (by omega) (by omega) (by omega)
 have c2:y*w≤h*w:=Int.mul_le_mul_of_nonneg_right (by omega) (by omega)
 rw [Int.mul_comm h w] at c2
 rw [w64 (x:=y*w) (by omega) (by omega),w64 (by omega) (by omega)]
theorem W5 (w h x y:Int):vcall C frz 97 [.agg #[.int .i64 w,.int .i64 h],.int .i64 x,.int .i64 y] H=some (.int .i64 (nodeAt w h x y),H):=by
 rw [Qb (fn:=Tryd.f97) Tryd.func97 rfl (by kernel_rfl) rfl]
 simp [Zg]
 refine Qs _ _ ?_ ?_<;>intro h1<;>simp [h1,Wf,nodeAt]
 obtain ⟨e1,e2⟩:=Rq w h x y h1
 simp only [e1,e2]
 refine Qs _ _ ?_ ?_<;>intro h2<;>simp [h2,Wf]
 simp only [e2]
 refine Qe _ ?_ ?_<;>intro h3<;>simp [h3]
 exact Rc h1 h2 h3
theorem Wq (w h x y:Int):vcall C frz 76 [.agg #[.int .i64 w,.int .i64 h],.int .i64 x,.int .i64 y] H=some (.int .i64 (nodeAt w h x y),H):=by
 rw [Qb (fn:=Tryd.f76) Tryd.func76 rfl (by kernel_rfl) rfl]
 simp [Yb]
 refine Qs _ _ ?_ ?_<;>intro h1<;>simp [h1,Ww,nodeAt]
 obtain ⟨e1,e2⟩:=Rq w h x y h1
 simp only [e1,e2]
 refine Qs _ _ ?_ ?_<;>intro h2<;>simp [h2,Ww]
 simp only [e2]
 refine Qe _ ?_ ?_<;>intro h3<;>simp [h3]
 exact Rc h1 h2 h3
theorem Q8 (w h x y:Int) : -1≤nodeAt w h x y∧nodeAt w h x y<16:=by
 unfold nodeAt
 split
 ·rename_i h1
  obtain ⟨h1,h2,h3⟩:=h1
  have hm:=Qy h1
  obtain ⟨⟨a1,a2⟩,b1,b2⟩:=h1
  have c1:0*0≤y*w:=Int.mul_le_mul h3.1 (by omega) (by omega) (by omega)
  have c2:y*w≤(h-1)*w:=Int.mul_le_mul_of_nonneg_right (by omega) (by omega)
  rw [Int.sub_mul,Int.mul_comm h w] at c2
  omega
 ·omega
theorem T4 {n w:Int} (h:0≤n) (h1:1≤w) (h2:n<16):IntKind.i64.wrap (n.tdiv w)=n/w:=by
 rw [Int.tdiv_eq_ediv_of_nonneg h]
 have h3:=Int.ediv_le_self w h
 have h4:=Int.ediv_nonneg h (by omega:0≤w)
 exact w64 (by omega) (by omega)
theorem Si {n w:Int} (h:0≤n):n.tmod w=n%w:=Int.tmod_eq_emod_of_nonneg h
theorem Um {n w:Int} (h:0≤n) (h1:1≤w) (h2:n<16):0≤n/w∧n/w<16:=⟨Int.ediv_nonneg h (by omega),by have:=Int.ediv_le_self w h;omega⟩
theorem Z8 {n w:Int} (h1:1≤w) (h2:w≤4):0≤n%w∧n%w<4:=⟨Int.emod_nonneg _ (by omega),by have:=Int.emod_lt_of_pos n (by omega:0<w);omega⟩
theorem Y4 (w h n p:Int):vcall C frz 80 [.agg #[.int .i64 w,.int .i64 h],.int .i64 n,.int .i64 p] H=some (.int .i64 (next w h n p),H):=by
 rw [Qb (fn:=Tryd.f80) Tryd.func80 rfl (by kernel_rfl) rfl]
 simp [S6]
 refine Qe _ ?_ ?_<;>intro h1<;>simp [h1,next]
 obtain ⟨⟨⟨a1,a2⟩,b1,b2⟩,g2,g3,g4⟩:=Ta h1
 rw [X4 (h:=by kernel_rfl)]
 simp
 refine Wm (by omega) ?_
 refine Wm (by omega) ?_
 obtain ⟨d1,d2⟩:=Um g2 a1 g4
 obtain ⟨m1,m2⟩:=Z8 (n:=n) a1 a2
 rw [T4 g2 a1 g4,Si g2]
 refine Qe _ ?_ ?_<;>intro p0<;>simp [p0,W5]
 ·rw [w64 (by omega) (by omega)]
 refine Qe _ ?_ ?_<;>intro p1<;>simp [p1,W5]
 ·rw [w64 (by omega) (by omega)]
 refine Qe _ ?_ ?_<;>intro p2<;>simp [p2,W5]
 ·rw [w64 (by omega) (by omega)]
 refine Qe _ ?_ ?_<;>intro p3<;>simp [p3,W5]
 ·rw [w64 (by omega) (by omega)]
 refine Qe _ ?_ ?_<;>intro p4<;>simp [p4,W5]
theorem W6 (w h n p:Int):vcall C frz 57 [.agg #[.int .i64 w,.int .i64 h],.int .i64 n,.int .i64 p] H=some (.int .i64 (next w h n p),H):=by
 rw [Qb (fn:=Tryd.f57) Tryd.func57 rfl (by kernel_rfl) rfl]
 simp [R5]
 refine Qe _ ?_ ?_<;>intro h1<;>simp [h1,next]
 obtain ⟨⟨⟨a1,a2⟩,b1,b2⟩,g2,g3,g4⟩:=Ta h1
 refine Wm (by omega) ?_
 refine Wm (by omega) ?_
 obtain ⟨d1,d2⟩:=Um g2 a1 g4
 obtain ⟨m1,m2⟩:=Z8 (n:=n) a1 a2
 rw [T4 g2 a1 g4,Si g2]
 refine Qe _ ?_ ?_<;>intro p0<;>simp [p0,Wq]
 ·rw [w64 (by omega) (by omega)]
 refine Qe _ ?_ ?_<;>intro p1<;>simp [p1,Wq]
 ·rw [w64 (by omega) (by omega)]
 refine Qe _ ?_ ?_<;>intro p2<;>simp [p2,Wq]
 ·rw [w64 (by omega) (by omega)]
 refine Qe _ ?_ ?_<;>intro p3<;>simp [p3,Wq]
 ·rw [w64 (by omega) (by omega)]
 refine Qe _ ?_ ?_<;>intro p4<;>simp [p4,Wq]
theorem Zq (w h n p:Int) : -1≤next w h n p∧next w h n p<16:=by
 unfold next
 split
 ·rename_i h1
  have:=Ta h1
  have a0:=Q8 w h (n%w) (n/w-1)
  have a1:=Q8 w h (n%w+1) (n/w)
  have a2:=Q8 w h (n%w) (n/w+1)
  have a3:=Q8 w h (n%w-1) (n/w)
  repeat' split
  all_goals omega
 ·omega
theorem X0 (w h c:Int):inR 0 c (IntKind.i64.wrap (IntKind.i64.wrap (4*cnt w h)-1))↔0≤c∧c<4*cnt w h:=by
 have:=Wa w h
 rw [w64 (x:=4*cnt w h) (by omega) (by omega),w64 (by omega) (by omega)]
 simp only [inR];omega
theorem Y7 {w h c:Int} (h1:0≤c∧c<4*cnt w h):IntKind.i64.wrap (c.tdiv 4)=c/4∧c.tmod 4=c%4:=by
 have:=Wa w h
 rw [Int.tdiv_eq_ediv_of_nonneg h1.1,Int.tmod_eq_emod_of_nonneg h1.1]
 exact ⟨w64 (by omega) (by omega),rfl⟩
theorem T2 (w h c:Int):vcall C frz 78 [.agg #[.int .i64 w,.int .i64 h],.int .i64 c] H=some (.bool (decide (leads w h c)),H):=by
 rw [Qb (fn:=Tryd.f78) Tryd.func78 rfl (by kernel_rfl) rfl]
 simp [Yn,Wf]
 refine Qs _ _ ?_ ?_<;>intro h1<;>simp [h1]
 ·rw [X0] at h1
  obtain ⟨e1,e2⟩:=Y7 h1
  simp [e1,e2,Y4,leads,h1]
 ·rw [X0] at h1
  exact fun g=>h1 g.1
theorem Zu (w h c:Int):vcall C frz 73 [.agg #[.int .i64 w,.int .i64 h],.int .i64 c] H=some (.bool (decide (leads w h c)),H):=by
 rw [Qb (fn:=Tryd.f73) Tryd.func73 rfl (by kernel_rfl) rfl]
 simp [X8,Ww]
 refine Qs _ _ ?_ ?_<;>intro h1<;>simp [h1]
 ·rw [X0] at h1
  obtain ⟨e1,e2⟩:=Y7 h1
  simp [e1,e2,W6,leads,h1]
 ·rw [X0] at h1
  exact fun g=>h1 g.1
theorem Pp (n:Nat) (h:n<100):vcall C frz 106 [.int .i64 n] H=some (.string (decB n),H):=(P4 n h).exact (by simp) rfl
theorem Rv (n:Nat) (h:n<100):vcall C frz 92 [.int .i64 n,.int .i64 10] H=some (.string (decB n),H):=by
 rw [Qb (fn:=Tryd.f92) Tryd.func92 rfl (by kernel_rfl) rfl]
 have s:=fun F=>Pp (frz:=F) (H:=H) n h
 have h1:(n:Int)<100:=by omega
 have h2:(0:Int)≤n:=by omega
 simp [h1,h2,s,h]
theorem Px (n:Nat) (h:n<100):vcall C frz 72 [.int .i64 n] H=some (.string (decB n),H):=by
 rw [Qb (fn:=Tryd.f72) Tryd.func72 rfl (by kernel_rfl) rfl]
 have s:=fun F=>Rv (frz:=F) (H:=H) n h
 simp [s]
theorem P1 (n:Nat) (h:n<100):vcall C frz 54 [.int .i64 n] H=some (.string (decB n),H):=by
 rw [Qb (fn:=Tryd.f54) Tryd.func54 rfl (by kernel_rfl) rfl]
 have s:=fun F=>Px (frz:=F) (H:=H) n h
 simp [s]
theorem Ys (n:Nat) (h:n<100):vcall C frz 32 [.int .i64 n] H=some (.string (decB n),H):=by
 rw [Qb (fn:=Tryd.f32) Tryd.func32 rfl (by kernel_rfl) rfl]
 have s:=fun F=>P1 (frz:=F) (H:=H) n h
 simp [s]
def dB (n:Nat):ByteArray:=⟨#[UInt8.ofNat (48+n)]⟩
theorem Ol {n:Nat} (h:n<10):strOfNums [48+(n:Int)]=dB n:=by
 have:((List.range 10).all fun n=>(strOfNums [48+(n:Int)]).data == (dB n).data)=true:=by kernel_rfl
 rw [List.all_eq_true] at this
 exact ByteArray.ext (eq_of_beq (this n (List.mem_range.2 h)))
theorem U1 (n:Nat):(dB n).size=1:=rfl
theorem T5 (n:Nat):decB n=if n<10 then dB n else dB (n/10)++dB (n%10):=by
 unfold decB dB
 split
 ·rfl
 ·apply ByteArray.ext;simp [ByteArray.data_append]
theorem Ul {K:Heap} {id:Nat} {x:Int} (h:K[id]? = some ⟨[.int .u8 x],0,5⟩):vconv Tryd.prog 55 9 K (.slice (some ⟨id,0,some 0⟩) 1 0)=some (.string (strOfNums [x])):=by
 have h1:isU8 Tryd.prog 5=true:=by kernel_rfl
 have h2:isStr Tryd.prog 9=true:=by kernel_rfl
 simp [vconv,vbytes,vsrc,VM.look,h,h1,h2,byteNs]
theorem Q2 {x y:ByteArray} (h:x.size+y.size≤1073741824):vbin Tryd.prog .add 9 (.string x) (.string y)=some (.string (x++y)):=by
 simp [vbin,h]
theorem bempty (a:ByteArray):a++(ByteArray.mk #[])=a:=by apply ByteArray.ext;simp [ByteArray.data_append]
theorem Vf (n:Nat) (h:n<10):vcall C frz 52 [.int .i64 n] H=some (.int .u8 (48+n:Nat),H):=by
 rw [Qb (fn:=Tryd.f52) Tryd.func52 rfl (by kernel_rfl) rfl]
 have h1:(n:Int)<10:=by omega
 have w1:∀[Inhabited Unit],IntKind.i64.wrap (48+(n:Int))=48+(n:Int):=by intro _;rw [w64 (by omega) (by omega)]
 have w2:∀[Inhabited Unit],IntKind.u8.wrap (48+(n:Int))=48+(n:Int):=by intro _;show (48+(n:Int))%256=_;omega
 simp [h1,h,w1,w2]
theorem U4 (n:Nat) (h:n<100):wp (vcall C frz 29 [.int .i64 n] H) (fun r _=>r=.string (decB n)):=by
 rw [Qb (fn:=Tryd.f29) Tryd.func29 rfl (by kernel_rfl) rfl]
 simp
 refine Wu ?_ ?_<;>intro g
 ·simp
  have:n=0:=by omega
  subst this
  rfl
 ·simp
  have m1:(n:Int).tmod 10=((n%10:Nat):Int):=by rw [Int.tmod_eq_emod_of_nonneg (by omega)];omega
  have d1:(n:Int).tdiv 10=((n/10:Nat):Int):=by rw [Int.tdiv_eq_ediv_of_nonneg (by omega)];omega
  have q1:¬((n%10:Nat):Int)<0:=by omega
  have f1:=fun F H=>Vf (frz:=F) (H:=H) (n%10) (by omega)
  have hn0:¬(n:Int)<0:=by omega
  obtain ⟨r,hr⟩:∃r:Nat,n%10=r:=⟨_,rfl⟩
  rw [hr] at m1 q1 f1
  rw [X9]
  have cb:=fun K id h=>Ul (K:=K) (id:=id) (x:=48+(r:Int)) h
  have cb0:=cb (H++[⟨[.int .u8 (48+r)],0,5⟩]) H.length (by simp)
  rw [Ol (by omega)] at cb0
  have v1:=Q2 (x:=dB r) (y:=⟨#[]⟩) (by have e1:=U1 r;have e2:(ByteArray.mk #[]).size=0:=rfl;omega)
  rw [bempty] at v1
  obtain ⟨m,hm⟩:∃m:Nat,n/10=m:=⟨_,rfl⟩
  rw [hm] at d1
  have wm:∀[Inhabited Unit],IntKind.i64.wrap (m:Int)=(m:Int):=by intro _;exact w64 (by omega) (by omega)
  have wr0:∀[Inhabited Unit],IntKind.i64.wrap 0=0:=by intro _;exact w64 (by omega) (by omega)
  simp [g,m1,q1,f1,hn0,cb0,v1,d1,wm]
  rw [X2,X9]
  by_cases g2:m=0
  ·simp [g2,wr0]
   rw [T5,if_pos (by omega),← hr,Nat.mod_eq_of_lt (by omega)]
  ·have m2:(m:Int).tmod 10=(m:Int):=by rw [Int.tmod_eq_emod_of_nonneg (by omega)];omega
   have d2:(m:Int).tdiv 10=0:=by rw [Int.tdiv_eq_ediv_of_nonneg (by omega)];omega
   have f2:=fun F H=>Vf (frz:=F) (H:=H) m (by omega)
   have cb1:=Ul (K:=H++[⟨[.int .u8 (48+r)],0,5⟩,⟨[.int .u8 (48+m)],0,5⟩]) (id:=H.length+1) (x:=48+(m:Int)) (by simp)
   rw [Ol (by omega)] at cb1
   have v2:=Q2 (x:=dB m) (y:=dB r) (by have e1:=U1 r;have e2:=U1 m;omega)
   have q2:¬(m:Int)<0:=by omega
   simp [g2,m2,q2,f2,cb1,v2,d2,wr0]
   rw [X2,X9]
   simp [hn0]
   rw [T5,if_neg (by omega),hm,hr]
theorem Qq (xs:List Int) (i:Nat) (h:i<xs.length):xs.getD i 0=xs[i]:=by simp [List.getD_eq_getElem?_getD,h]
theorem Rx (v:Value) (xs:List Int) (n:Int) (hI:IsI H v xs) (h0:0≤n) (h1:n≤1048576) (h2:xs.length≤9223372036854775807) :
 vcall C frz 34 [v,.int .i64 n] H=some (.int .i64 (if n<xs.length then -1 else n-xs.length),H):=by
 rw [Qb (fn:=Tryd.f34) Tryd.func34 rfl (by kernel_rfl) rfl]
 simp [hI.len]
 rw [w64 (by omega) (by omega)]
 refine Qe _ ?_ ?_<;>intro h<;>simp [h]
 ·intro hh;omega
 ·intro hh;omega
theorem Vd (v:Value) (xs:List Int) (hI:IsI H v xs) (hb:xs.length≤1073741824) :
 vcall C frz 19 [v] H=some (.slice (some ⟨H.length,0,some 0⟩) xs.length 0,H++[⟨xs.map (.int .i64),0,3⟩]):=by
 rw [Qb (fn:=Tryd.f19) Tryd.func19 rfl (by kernel_rfl) rfl]
 simp [hI.len]
 refine Wm (by omega) ?_
 refine Yk (fun n t H'=>∃i:Nat,n=xs.length-i∧i≤xs.length∧t 0=v∧t 3=.slice (some ⟨H.length,0,some 0⟩) xs.length 0∧t 4=.int .i64 i∧
  H'=H++[⟨(xs.map (.int .i64)).take i++List.replicate (xs.length-i) (.int .i64 0),0,3⟩]) ?_ (n:=xs.length) ⟨0,by simp⟩
 rintro n t H' ⟨i,rfl,hi,h0,h3,h4,rfl⟩ ih
 simp [h0,h3,h4,hI.lenA]
 refine Qe _ ?_ ?_<;>intro h
 ·simp [h0,h3,h4,h,hI.idxA,hI.loadA,Qq]
  refine Wm (by omega) ?_
  refine ih (xs.length-(i+1)) _ _ ⟨i+1,rfl,by omega,by simp [h0],by simp [h3],?_,?_⟩ (by omega)
  ·simp;rw [w64 (by omega) (by omega)]
  ·rw [Up _ _ _ _ h]
 ·have:i=xs.length:=by omega
  subst this
  simp [h0,h3,h4,Tm]
theorem Vm (a b:Value) (xs ys:List Int) (ha:IsI H a xs) (hb:IsI H b ys) (hl:xs.length≤1073741824) :
 vcall C frz 22 [a,b] H=some (.bool (decide (xs=ys)),H):=by
 rw [Qb (fn:=Tryd.f22) Tryd.func22 rfl (by kernel_rfl) rfl]
 simp [ha.len,hb.len]
 refine Qe _ ?_ ?_<;>intro h0<;>simp [h0]
 ·refine Yk (fun n t H'=>∃i:Nat,n=xs.length-i∧i≤xs.length∧t 0=a∧t 1=b∧t 5=.int .i64 i∧H'=H∧xs.take i=ys.take i) ?_ (n:=xs.length) ⟨0,by simp⟩
  rintro n t H' ⟨i,rfl,hi,h1,h2,h3,rfl,h4⟩ ih
  simp [h1,h2,h3,ha.len]
  refine Qe _ ?_ ?_<;>intro h
  ·have h':i<ys.length:=by omega
   simp [h1,h2,h3,h]
   rw [X4 (h:=by kernel_rfl)]
   simp [h1,h2,h3,h,h',ha.idx,ha.load,hb.idx,hb.load,Qq]
   refine Qe _ ?_ ?_<;>intro h5<;>simp [h1,h2,h3,h5]
   ·refine ih (xs.length-(i+1)) _ _ ⟨i+1,rfl,by omega,by simp [h1],by simp [h2],?_,rfl,?_⟩ (by omega)
    ·simp;rw [w64 (by omega) (by omega)]
    ·rw [List.take_succ_eq_append_getElem h,List.take_succ_eq_append_getElem h',h4];simp [h5]
   ·intro hh;subst hh;simp at h5
  ·have:i=xs.length:=by omega
   subst this
   simp [h1,h2,h3]
   rw [List.take_length,List.take_of_length_le (by omega)] at h4
   exact h4
 ·intro hh;exact h0 (by rw [hh])
theorem Rh (w h:Int):vcall C frz 37 [.agg #[.int .i64 w,.int .i64 h]] H=some (.agg #[.int .i64 w,.int .i64 h],H):=by
 rw [Qb (fn:=Tryd.f37) Tryd.func37 rfl (by kernel_rfl) rfl]
 simp
theorem Rz (w h:Int) (v:Value) (xs:List Int) (n:Int) (hI:IsI H v xs) (h0:0≤n) (h1:n≤1048576) (h2:xs.length≤9223372036854775807) :
 vcall C frz 16 [.agg #[.int .i64 w,.int .i64 h,v],.int .i64 n] H=some (.int .i64 (if n<xs.length then -1 else n-xs.length),H):=by
 rw [Qb (fn:=Tryd.f16) Tryd.func16 rfl (by kernel_rfl) rfl]
 simp [Rx _ _ _ (hI.app _) h0 h1 h2,hI.one',hI.cells]
 refine Qe _ ?_ ?_<;>intro h<;>simp [h]
 ·intro hh;omega
theorem S8 (w h:Int) (v:Value) (xs:List Int) (hI:IsI H v xs) (hb:xs.length≤1073741824) :
 vcall C frz 18 [.agg #[.int .i64 w,.int .i64 h,v]] H=some (.agg #[.int .i64 w,.int .i64 h,.slice (some ⟨H.length,0,some 0⟩) xs.length 0],H++[⟨xs.map (.int .i64),0,3⟩]):=by
 rw [Qb (fn:=Tryd.f18) Tryd.func18 rfl (by kernel_rfl) rfl]
 simp [Rh,Vd _ _ (hI.app _) hb,hI.one',hI.cells]
theorem S0 (w h w' h':Int):vcall C frz 40 [.agg #[.int .i64 w,.int .i64 h],.agg #[.int .i64 w',.int .i64 h']] H=some (.bool (decide (w=w'∧h=h')),H):=by
 rw [Qb (fn:=Tryd.f40) Tryd.func40 rfl (by kernel_rfl) rfl]
 simp
 refine Qe _ ?_ ?_<;>intro h0<;>simp [h0]
 refine Qe _ ?_ ?_<;>intro h0<;>simp [h0]
theorem S3 (w h w' h':Int) (a b:Value) (xs ys:List Int) (ha:IsI H a xs) (hb:IsI H b ys) (hl:xs.length≤1073741824) :
 vcall C frz 21 [.agg #[.int .i64 w,.int .i64 h,a],.agg #[.int .i64 w',.int .i64 h',b]] H=some (.bool (decide ((w=w'∧h=h')∧xs=ys)),H):=by
 rw [Qb (fn:=Tryd.f21) Tryd.func21 rfl (by kernel_rfl) rfl]
 simp [S0,ha.one',hb.one',ha.cells,hb.cells,-Bool.decide_and]
 refine Qe _ ?_ ?_<;>intro h0<;>simp [h0,Vm _ _ _ _ (ha.app _) (hb.app _) hl]
 refine Qe _ ?_ ?_<;>intro h0<;>simp [h0]
theorem W0 {w h:Int} {b:List Int} {i:Nat} (h5:i<b.length) (hg:¬goodAt w h b i):¬meshOk w h b:=fun hh=>hg (hh.1 i h5)
theorem Yx {w h:Int} {b:List Int} {i:Nat} (hj:∀j<i,goodAt w h b j) (hg:goodAt w h b i):∀j<i+1,goodAt w h b j:=fun j hh=>by
 by_cases hji:j<i
 ·exact hj j hji
 ·have:j=i:=by omega
  rw [this];exact hg
theorem Qr {w h:Int} {b:List Int} {i:Nat} (h5:i<b.length):goodAt w h b i↔leads w h b[i]∧(0<i→b[i-1]<b[i]):=by
 unfold goodAt
 rw [Qq _ _ h5]
 refine and_congr Iff.rfl ⟨fun g p=>?_,fun g p=>?_⟩
 ·have:=g p;rwa [Qq _ _ (by omega)] at this
 ·rw [Qq _ _ (by omega)];exact g p
theorem Sz (w h:Int) (v:Value) (b:List Int) (hI:IsI H v b) (hl:b.length≤1073741824) :
 vcall C frz 55 [.agg #[.int .i64 w,.int .i64 h,v]] H=some (.bool (decide (meshOk w h b)),H):=by
 rw [Qb (fn:=Tryd.f55) Tryd.func55 rfl (by kernel_rfl) rfl]
 simp [hI.one',hI.cells,hI.lenA,Yb]
 refine Qe _ ?_ ?_<;>intro hg<;>simp [hg]
 ·refine Yk (fun n t H'=>∃i:Nat,n=b.length-i∧i≤b.length∧t 1=.pointer (some ⟨H.length,0,some 0⟩)∧t 3=.int .i64 i∧
   H'=H++[⟨[.int .i64 w,.int .i64 h,v],0,45⟩]∧∀j<i,goodAt w h b j) ?_ (n:=b.length) ⟨0,by simp⟩
  rintro n t H' ⟨i,rfl,hi,h1,h3,rfl,hj⟩ ih
  have next:=fun (t':Env) (e1:t' 1=.pointer (some ⟨H.length,0,some 0⟩)) (e2:t' 3=.int .i64 (i+1:Nat)) (e3:i<b.length) (e4:goodAt w h b i)=>
   ih (b.length-(i+1)) t' _ ⟨i+1,rfl,by omega,e1,e2,rfl,Yx hj e4⟩ (by omega)
  simp [h1,h3,hI.lenA]
  refine Qe _ ?_ ?_<;>intro h5
  ·simp [h1,h3,h5]
   rw [X4 (h:=by kernel_rfl)]
   simp [h1,h3,h5,hI.idxA,hI.loadA,Qq,Zu]
   refine Qs _ _ ?_ ?_<;>intro hL<;>simp [h1,h3,h5,hL]
   ·refine Qs _ _ ?_ ?_<;>intro h0
    ·have e:IntKind.i64.wrap ((i:Int)-1)=((i-1:Nat):Int):=by rw [w64 (by omega) (by omega)];omega
     have e':i-1<b.length:=by omega
     simp [h1,h3,h5,h0,hL,hI.idxA,hI.loadA,Qq,e,e']
     refine Qe _ ?_ ?_<;>intro h6
     ·simp [h1,h3,h5,h0,hL,h6]
      refine W0 h5 ?_
      rw [Qr h5]
      exact fun hh=>absurd (hh.2 h0) (by omega)
     ·simp [h1,h3,h5,h0,hL,h6]
      refine next _ (by simp [h1]) ?_ h5 ((Qr h5).2 ⟨hL,fun _=>by omega⟩)
      simp;rw [w64 (by omega) (by omega)]
    ·simp [h1,h3,h5,h0,hL]
     refine next _ (by simp [h1]) ?_ h5 ((Qr h5).2 ⟨hL,fun hh=>absurd hh h0⟩)
     simp;rw [w64 (by omega) (by omega)]
   ·refine W0 h5 ?_
    rw [Qr h5]
    exact fun hh=>hL hh.1
  ·have:i=b.length:=by omega
   subst this
   simp [h1,h3]
   exact ⟨hj,hg⟩
 ·exact fun hh=>hg hh.2
theorem Zr {b:List Int} {c:Int} {i:Nat} (h:i<b.length) (h1:c∉b.take i) (h2:¬b[i]=c):c∉b.take (i+1):=by
 rw [List.take_succ_eq_append_getElem h]
 simp only [List.mem_append,List.mem_singleton,not_or]
 exact ⟨h1,fun hh=>h2 hh.symm⟩
def place (b:List Int) (c:Int):Int:=if c∈b then b.idxOf c else -1
theorem Vz (b:List Int) (c:Int) : -1≤place b c∧place b c<b.length∧(0≤place b c↔c∈b):=by
 unfold place
 split
 ·rename_i h
  have:=List.idxOf_lt_length_iff.2 h
  refine ⟨by omega,by omega,?_⟩
  simp [h]
 ·rename_i h
  refine ⟨by omega,by omega,?_⟩
  simp [h]
theorem S1 {b:List Int} {c:Int} {i:Nat} (h:i<b.length) (h1:c∉b.take i) (h2:b[i]=c):place b c=i:=by
 have hm:c∈b:=h2▸List.getElem_mem h
 unfold place
 rw [if_pos hm]
 have e:b=b.take i++b.drop i:=(List.take_append_drop i b).symm
 have e2:b.drop i=c::b.drop (i+1):=by rw [List.drop_eq_getElem_cons h,h2]
 rw [e,List.idxOf_append,if_neg h1,e2,List.idxOf_cons_self]
 simp;omega
theorem O0 (v:Value) (b:List Int) (c:Int) (hI:IsI H v b) (hl:b.length≤1073741824) :
 vcall C frz 74 [v,.int .i64 c] H=some (.bool (decide (c∈b)),H):=by
 rw [Qb (fn:=Tryd.f74) Tryd.func74 rfl (by kernel_rfl) rfl]
 simp [hI.len]
 refine Yk (fun n t H'=>∃i:Nat,n=b.length-i∧i≤b.length∧t 0=v∧t 1=.int .i64 c∧t 5=.int .i64 i∧H'=H∧c∉b.take i) ?_ (n:=b.length) ⟨0,by simp⟩
 rintro n t H' ⟨i,rfl,hi,h1,h2,h3,rfl,hj⟩ ih
 simp [h1,h2,h3,hI.len]
 refine Qe _ ?_ ?_<;>intro h5
 ·simp [h1,h2,h3,h5,hI.idx,hI.load,Qq]
  refine Qe _ ?_ ?_<;>intro h6<;>simp [h1,h2,h3,h6]
  ·rw [← h6];exact List.getElem_mem h5
  ·refine ih (b.length-(i+1)) _ _ ⟨i+1,rfl,by omega,by simp [h1],by simp [h2],?_,rfl,Zr h5 hj h6⟩ (by omega)
   simp;rw [w64 (by omega) (by omega)]
 ·have:i=b.length:=by omega
  subst this
  simp [h1,h2,h3]
  rwa [List.take_length] at hj
theorem Pj (v:Value) (b:List Int) (c:Int) (hI:IsI H v b) (hl:b.length≤1073741824) :
 vcall C frz 95 [v,.int .i64 c] H=some (.int .i64 (place b c),H):=by
 rw [Qb (fn:=Tryd.f95) Tryd.func95 rfl (by kernel_rfl) rfl]
 simp [hI.len]
 refine Yk (fun n t H'=>∃i:Nat,n=b.length-i∧i≤b.length∧t 0=v∧t 1=.int .i64 c∧t 6=v∧t 7=.int .i64 b.length∧t 8=.int .i64 i∧H'=H∧c∉b.take i) ?_ (n:=b.length) ⟨0,by simp⟩
 rintro n t H' ⟨i,rfl,hi,h0,h1,h2,h3,h4,rfl,hj⟩ ih
 simp [h0,h1,h2,h3,h4,hI.len]
 refine Qe _ ?_ ?_<;>intro h5
 ·simp [h0,h1,h2,h3,h4,h5,hI.idx,hI.load,Qq]
  refine Qe _ ?_ ?_<;>intro h6<;>simp [h0,h1,h2,h3,h4,h6]
  ·rw [S1 (c:=b[i]) h5 (by first|exact hj|(rw [h6];exact hj)|(rw [← h6];exact hj)) rfl]
  ·refine ih (b.length-(i+1)) _ _ ⟨i+1,rfl,by omega,by simp [h0],by simp [h1],by simp [h2],by simp [h3],?_,rfl,Zr h5 hj (by omega)⟩ (by omega)
   simp;rw [w64 (by omega) (by omega)]
 ·have:i=b.length:=by omega
  subst this
  simp [h0,h1,h2,h3]
  rw [List.take_length] at hj
  rw [place,if_neg hj]
theorem Tr (v:Value) (b:List Int) (c:Int) (hI:IsI H v b) (hl:b.length≤1073741824) :
 vcall C frz 79 [v,.int .i64 c] H=some (.bool (decide (c∈b)),H):=by
 rw [Qb (fn:=Tryd.f79) Tryd.func79 rfl (by kernel_rfl) rfl]
 simp [Pj _ _ _ hI hl,Vz]
theorem Rg (w h:Int) (v:Value) (b:List Int) (c:Int) (hI:IsI H v b) (hl:b.length≤1073741824) :
 vcall C frz 56 [.agg #[.int .i64 w,.int .i64 h,v],.int .i64 c] H=some (.bool (decide (has w h b c)),H):=by
 rw [Qb (fn:=Tryd.f56) Tryd.func56 rfl (by kernel_rfl) rfl]
 simp [hI.one',hI.cells,Zu]
 refine Qs _ _ ?_ ?_<;>intro h1<;>simp [h1,O0 _ _ _ (hI.app _) hl,has,-Bool.decide_and]
theorem T3 (w h:Int) (v:Value) (b:List Int) (c:Int) (hI:IsI H v b) (h0:leads w h c) :
 vcall C frz 59 [.agg #[.int .i64 w,.int .i64 h,v],.int .i64 c] H=some (.int .i64 (next w h (c/4) (c%4)),H):=by
 rw [Qb (fn:=Tryd.f59) Tryd.func59 rfl (by kernel_rfl) rfl]
 obtain ⟨e1,e2⟩:=Y7 h0.1
 simp [hI.one',hI.cells,e1,e2,Y4]
theorem Rb (w h:Int) (v:Value) (b:List Int) (hI:IsI H v b) (hl:b.length≤1073741824) :
 vcall C frz 77 [.agg #[.int .i64 w,.int .i64 h,v]] H=some (.bool (decide (meshOk w h b)),H):=by
 rw [Qb (fn:=Tryd.f77) Tryd.func77 rfl (by kernel_rfl) rfl]
 simp [hI.one',hI.cells,hI.lenA]
 refine Yk (fun n t H'=>∃i:Nat,n=b.length-i∧i≤b.length∧t 1=.pointer (some ⟨H.length,0,some 0⟩)∧t 6=v∧t 7=.int .i64 b.length∧t 8=.int .i64 i∧
  H'=H++[⟨[.int .i64 w,.int .i64 h,v],0,45⟩]∧∀j<i,goodAt w h b j) ?_ (n:=b.length) ⟨0,by simp⟩
 rintro n t H' ⟨i,rfl,hi,h1,h2,h3,h4,rfl,hj⟩ ih
 have next:=fun (t':Env) (e1:t' 1=.pointer (some ⟨H.length,0,some 0⟩)) (e2:t' 6=v) (e3:t' 7=.int .i64 b.length) (e4:t' 8=.int .i64 (i+1:Nat)) (e5:i<b.length) (e6:goodAt w h b i)=>
  ih (b.length-(i+1)) t' _ ⟨i+1,rfl,by omega,e1,e2,e3,e4,rfl,Yx hj e6⟩ (by omega)
 simp [h1,h2,h3,h4]
 refine Qe _ ?_ ?_<;>intro h5
 ·simp [h1,h2,h3,h4,h5,hI.idxA,hI.loadA,Qq,T2]
  refine Qs _ _ ?_ ?_<;>intro hL<;>simp [h1,h2,h3,h4,h5,hL]
  ·refine Qs _ _ ?_ ?_<;>intro h0
   ·have e:IntKind.i64.wrap ((i:Int)-1)=((i-1:Nat):Int):=by rw [w64 (by omega) (by omega)];omega
    have e':i-1<b.length:=by omega
    simp [h1,h2,h3,h4,h5,h0,hL,hI.idxA,hI.loadA,Qq,e,e']
    refine Qe _ ?_ ?_<;>intro h6
    ·simp [h1,h2,h3,h4,h5,h0,hL,h6]
     refine W0 h5 ?_
     rw [Qr h5]
     exact fun hh=>absurd (hh.2 h0) (by omega)
    ·simp [h1,h2,h3,h4,h5,h0,hL,h6]
     refine next _ (by simp [h1]) (by simp [h2]) (by simp [h3]) ?_ h5 ((Qr h5).2 ⟨hL,fun _=>by omega⟩)
     simp;rw [w64 (by omega) (by omega)]
   ·simp [h1,h2,h3,h4,h5,h0,hL]
    refine next _ (by simp [h1]) (by simp [h2]) (by simp [h3]) ?_ h5 ((Qr h5).2 ⟨hL,fun hh=>absurd hh h0⟩)
    simp;rw [w64 (by omega) (by omega)]
  ·refine W0 h5 ?_
   rw [Qr h5]
   exact fun hh=>hL hh.1
 ·have:i=b.length:=by omega
  subst this
  simp [h1,h2,h3,h4,Zg]
  exact ⟨fun hg=>⟨hj,hg⟩,fun hh=>hh.2⟩
theorem Ut (w h:Int) (v:Value) (b:List Int) (c:Int) (hI:IsI H v b) (hl:b.length≤1073741824) :
 vcall C frz 58 [.agg #[.int .i64 w,.int .i64 h,v],.int .i64 c] H=some (.bool (decide (meshOk w h b∧has w h b c)),H):=by
 rw [Qb (fn:=Tryd.f58) Tryd.func58 rfl (by kernel_rfl) rfl]
 simp [hI.one',hI.cells,Rb _ _ _ _ (hI.app _) hl]
 refine Qs _ _ ?_ ?_<;>intro h1<;>simp [h1,T2,-Bool.decide_and]
 refine Qs _ _ ?_ ?_<;>intro h2<;>simp [h2,has,Tr _ _ _ (hI.app _) hl,-Bool.decide_and]
def portB (p:Nat):ByteArray:=if p=0 then ⟨#[110,111,114,116,104]⟩ else if p=1 then ⟨#[101,97,115,116]⟩ else if p=2 then ⟨#[115,111,117,116,104]⟩ else ⟨#[119,101,115,116]⟩
theorem Tx (p:Nat) (h:p<4):vcall C frz 39 [.int .i64 p] H=some (.string (portB p),H):=by
 rw [Qb (fn:=Tryd.f39) Tryd.func39 rfl (by kernel_rfl) rfl]
 have k:=fun F=>Wf (frz:=F) (H:=H) (p:Int) 0 4
 have e:inR 0 (p:Int) 4:=⟨by omega,by omega⟩
 have bp:bplaces Tryd.prog 90=some [(0,1),(1,1),(2,1),(3,1),(4,1)]:=by kernel_rfl
 obtain rfl|rfl|rfl|rfl:p=0∨p=1∨p=2∨p=3:=by omega
 all_goals simp at k e;simp [k,e,bp,VM.splice,portB,vindex,part']
 done
theorem Vj (p:Nat) (h:p<4):vcall C frz 36 [.int .i64 p] H=some (.string (portB p),H):=by
 refine wp.exact (by simp) ?_ rfl
 rw [Qb (fn:=Tryd.f36) Tryd.func36 rfl (by kernel_rfl) rfl]
 have k:=fun F=>Ww (frz:=F) (H:=H) (p:Int) 0 4
 have e:inR 0 (p:Int) 4:=⟨by omega,by omega⟩
 obtain rfl|rfl|rfl|rfl:p=0∨p=1∨p=2∨p=3:=by omega
 all_goals simp at k e;simp [k,e,portB]
 done
end Go.Proofs.YtgemlndinpcdkaaDoor.V
set_option linter.all false
namespace Go.Proofs.YtgemlndinpcdkaaDoor.V
open Go Go.VM Go.Proofs
def G (xs:List Int) (i:Nat):Int:=xs.getD i 0
theorem T9 {xs:List Int} {i:Nat} (h:i<xs.length):G xs i=xs[i]:=by simp [G,List.getD_eq_getElem?_getD,h]
def swp (xs:List Int) (i j:Nat):List Int:=(xs.set i (G xs j)).set j (G xs i)
@[simp] theorem Pw (xs:List Int) (i j:Nat):(swp xs i j).length=xs.length:=by simp [swp]
theorem Zt {xs:List Int} {i j:Nat} (hi:i<xs.length) (hj:j<xs.length) (k:Nat):G (swp xs i j) k=if k=j then G xs i else if k=i then G xs j else G xs k:=by
 unfold swp
 by_cases hk:k<xs.length
 ·rw [T9 (by simpa using hk),List.getElem_set,List.getElem_set]
  by_cases h1:k=j
  ·rw [if_pos h1.symm,if_pos h1]
  ·rw [if_neg (Ne.symm h1),if_neg h1]
   by_cases h2:k=i
   ·rw [if_pos h2.symm,if_pos h2]
   ·rw [if_neg (Ne.symm h2),if_neg h2,T9 hk]
 ·rw [if_neg (by omega),if_neg (by omega)]
  simp [G,List.getD_eq_getElem?_getD,hk]
inductive Sw (a b:Nat) (xs:List Int):List Int→Prop
 | refl:Sw a b xs xs
 | step {ys:List Int} (i j:Nat) (h:Sw a b xs ys) (hi:a≤i∧i<b) (hj:a≤j∧j<b):Sw a b xs (swp ys i j)
variable {a b c d:Nat} {xs ys zs:List Int}
theorem Sw.len (h:Sw a b xs ys):ys.length=xs.length:=by
 induction h with
 | refl=>rfl
 | step i j _ _ _ ih=>rw [Pw,ih]
theorem Sw.trans (h:Sw a b xs ys) (h':Sw a b ys zs):Sw a b xs zs:=by
 induction h' with
 | refl=>exact h
 | step i j _ hi hj ih=>exact .step i j ih hi hj
theorem Sw.mono (h:Sw a b xs ys) (ha:c≤a) (hb:b≤d):Sw c d xs ys:=by
 induction h with
 | refl=>exact .refl
 | step i j _ hi hj ih=>exact .step i j ih (by omega) (by omega)
theorem Sw.out (h:Sw a b xs ys) (hb:b≤xs.length) {k:Nat} (hk:k<a∨b≤k):G ys k=G xs k:=by
 induction h with
 | refl=>rfl
 | step i j g hi hj ih=>rw [Zt (by rw [g.len];omega) (by rw [g.len];omega),if_neg (by omega),if_neg (by omega),ih]
theorem Sw.all (h:Sw a b xs ys) (hb:b≤xs.length) {p:Int→Prop} (hp:∀k,a≤k→k<b→p (G xs k)):∀k,a≤k→k<b→p (G ys k):=by
 induction h with
 | refl=>exact hp
 | step i j g hi hj ih=>
  intro k h1 h2
  rw [Zt (by rw [g.len];omega) (by rw [g.len];omega)]
  split
  ·exact ih i hi.1 hi.2
  ·split
   ·exact ih j hj.1 hj.2
   ·exact ih k h1 h2
def Srt (ys:List Int) (a b:Nat):Prop:=∀p q,a≤p→p<q→q<b→G ys p≤G ys q
theorem Srt.frame (h:Srt ys a b) (he:∀k,a≤k→k<b→G zs k=G ys k):Srt zs a b:=fun p q h1 h2 h3=>by
 rw [he p h1 (by omega),he q (by omega) h3];exact h p q h1 h2 h3
def Ins (ys:List Int) (a i j:Nat):Prop:=∀p q,a≤p→p<q→q≤i→q≠j→G ys p≤G ys q
theorem Ins.start (h:Srt ys a b):Ins ys a b b:=fun p q h1 h2 h3 h4=>h p q h1 h2 (by omega)
theorem Ins.step {i j:Nat} (h:Ins ys a i j) (hi:i<ys.length) (ha:a<j) (hj:j≤i) (hlt:G ys j<G ys (j-1)):Ins (swp ys j (j-1)) a i (j-1):=by
 intro p q h1 h2 h3 h4
 rw [Zt (by omega) (by omega),Zt (by omega) (by omega)]
 rw [if_neg h4]
 by_cases hp:p=j-1
 ·rw [if_pos hp]
  by_cases hq:q=j
  ·rw [if_pos hq];omega
  ·rw [if_neg hq];have:=h (j-1) q (by omega) (by omega) h3 hq;omega
 ·rw [if_neg hp]
  by_cases hpj:p=j
  ·rw [if_pos hpj]
   rw [if_neg (by omega)]
   exact h (j-1) q (by omega) (by omega) h3 (by omega)
  ·rw [if_neg hpj]
   by_cases hq:q=j
   ·rw [if_pos hq];exact h p (j-1) h1 (by omega) (by omega) (by omega)
   ·rw [if_neg hq];exact h p q h1 h2 h3 hq
theorem Ins.done {i j:Nat} (h:Ins ys a i j) (hj:j=a∨(a<j∧G ys (j-1)≤G ys j)):Srt ys a (i+1):=by
 intro p q h1 h2 h3
 by_cases hq:q=j
 ·subst hq
  rcases hj with hj|⟨hj,hle⟩
  ·omega
  ·by_cases hp:p=q-1
   ·rw [hp];exact hle
   ·have:=h p (q-1) h1 (by omega) (by omega) (by omega);omega
 ·exact h p q h1 h2 (by omega) hq
def Hp (ys:List Int) (f lo n:Nat):Prop:=∀r c,lo≤r→(c=2*r+1∨c=2*r+2)→c<n→G ys (f+c)≤G ys (f+r)
def HpB (ys:List Int) (f lo n r:Nat):Prop:=
 (∀s c,lo≤s→s≠r→(c=2*s+1∨c=2*s+2)→c<n→G ys (f+c)≤G ys (f+s))∧
 (∀s c,lo≤s→(r=2*s+1∨r=2*s+2)→(c=2*r+1∨c=2*r+2)→c<n→G ys (f+c)≤G ys (f+s))
theorem HpB.start {f lo n:Nat} (h:Hp ys f (lo+1) n):HpB ys f lo n lo:=
 ⟨fun s c h1 h2 h3 h4=>h s c (by omega) h3 h4,fun s c h1 h2=>by omega⟩
theorem HpB.done {f lo n r:Nat} (h:HpB ys f lo n r) (hd:∀c,(c=2*r+1∨c=2*r+2)→c<n→G ys (f+c)≤G ys (f+r)):Hp ys f lo n:=fun s c h1 h2 h3=>by
 by_cases hs:s=r
 ·subst hs;exact hd c h2 h3
 ·exact h.1 s c h1 hs h2 h3
theorem HpB.step {f lo n r c:Nat} (h:HpB ys f lo n r) (hl:f+n≤ys.length) (hlo:lo≤r) (hc:c=2*r+1∨c=2*r+2) (hn:c<n) (hlt:G ys (f+r)<G ys (f+c))
 (hbig:∀q,(q=2*r+1∨q=2*r+2)→q<n→G ys (f+q)≤G ys (f+c)):HpB (swp ys (f+r) (f+c)) f lo n c:=by
 have gc:G (swp ys (f+r) (f+c)) (f+c)=G ys (f+r):=by rw [Zt (by omega) (by omega),if_pos rfl]
 have gr:G (swp ys (f+r) (f+c)) (f+r)=G ys (f+c):=by rw [Zt (by omega) (by omega),if_neg (by omega),if_pos rfl]
 have go:∀k,k≠c→k≠r→G (swp ys (f+r) (f+c)) (f+k)=G ys (f+k):=fun k h1 h2=>by rw [Zt (by omega) (by omega),if_neg (by omega),if_neg (by omega)]
 refine ⟨fun s q h1 h2 h3 h4=>?_,fun s q h1 h2 h3 h4=>?_⟩
 ·by_cases hq:q=c
  ·have hs:s=r:=by omega
   subst hq hs
   rw [gc,gr];omega
  ·by_cases hs:s=r
   ·subst hs
    rw [gr,go q hq (by omega)]
    exact hbig q h3 h4
   ·by_cases hqr:q=r
    ·subst hqr
     rw [gr,go s h2 hs]
     exact h.2 s c h1 h3 hc hn
    ·rw [go q hq hqr,go s h2 hs];exact h.1 s q h1 hs h3 h4
 ·have hs:s=r:=by omega
  subst hs
  rw [gr,go q (by omega) (by omega)]
  exact h.1 c q (by omega) (by omega) h3 h4
theorem Hp.frame {f lo n:Nat} (h:Hp ys f lo n) (he:∀k,lo≤k→k<n→G zs (f+k)=G ys (f+k)):Hp zs f lo n:=fun r c h1 h2 h3=>by
 rw [he c (by omega) h3,he r h1 (by omega)];exact h r c h1 h2 h3
end Go.Proofs.YtgemlndinpcdkaaDoor.V
set_option linter.all false
namespace Go.Proofs.YtgemlndinpcdkaaDoor.V
open Go Go.VM Go.Proofs
set_option maxRecDepth 10000
variable {frz:Nat} {H:Heap}
theorem Qt {z:Value} {ws:List Int} (hz:IsI H z ws) {k:Nat} (hk:k<ws.length):vindexAddr Tryd.prog H 38 z (.int .i64 k)=some (elp z k)∧vload Tryd.prog H 3 (elp z k)=some (.int .i64 (G ws k)):=by
 refine ⟨?_,hz.load (by simp) hk⟩
 have:=hz.idx (P:=Tryd.prog) (ty:=38) (e:=3) (by simp) (i:=(k:Int)) (by omega) (by omega)
 simpa using this
def nxR (w h c:Int):Int:=next w h (c/4) (c%4)
def ndR (w h:Int) (xs:List Int) (i:Nat):List Int:=if i=0 then [] else G xs 0/4::(List.range i).map fun j=>nxR w h (G xs j)
def stR (w h:Int) (b xs:List Int) (i:Nat):Prop:=(meshOk w h b∧has w h b (G xs i))∧(0<i→G xs i/4=nxR w h (G xs (i-1)))
instance (w h:Int) (b xs:List Int) (i:Nat):Decidable (stR w h b xs i):=inferInstanceAs (Decidable (_∧_))
def rtOk (w h:Int) (b xs:List Int):Prop:=∀i,i<xs.length→stR w h b xs i
instance (w h:Int) (b xs:List Int):Decidable (rtOk w h b xs):=inferInstanceAs (Decidable (∀i,_→_))
def routeN (w h:Int) (b xs:List Int):List Int:=if rtOk w h b xs then ndR w h xs xs.length else []
theorem Xg (w h:Int) (xs:List Int) (i:Nat):(ndR w h xs i).length=if i=0 then 0 else i+1:=by
 unfold ndR;split<;>simp
theorem Vh (w h:Int) (xs:List Int) (i:Nat):ndR w h xs (i+1)=(if i=0 then [G xs 0/4] else ndR w h xs i)++[nxR w h (G xs i)]:=by
 unfold ndR
 rw [if_neg (by omega),List.range_succ,List.map_append]
 by_cases h0:i=0
 ·subst h0;simp
 ·simp [h0]
theorem R2 (w h:Int) (xs:List Int) {i:Nat} (h0:0<i):G (ndR w h xs i) i=nxR w h (G xs (i-1)):=by
 unfold ndR
 rw [if_neg (by omega),T9 (by simp)]
 obtain ⟨k,rfl⟩:∃k,i=k+1:=⟨i-1,by omega⟩
 simp
def RtRes (H:Heap) (l:List Int) (r:Value) (H':Heap):Prop:=Ow Fl.int 3 H' r l∧Chg H H' []∧∀j∈ids r,H.length≤j
theorem Y2 {w h:Int} {b:List Int} {c:Int} (k:has w h b c):0≤c∧c<64:=by
 have:=k.1.1
 have:=Wa w h
 omega
theorem Uz (w h:Int) (v u:Value) (b xs:List Int) (hI:IsI H v b) (hx:IsI H u xs) (hl:b.length≤1073741824) (lx:xs.length≤1048576) :
 wp (vcall C frz 38 [.agg #[.int .i64 w,.int .i64 h,v],u] H) (RtRes H (routeN w h b xs)):=by
 rw [Qb (fn:=Tryd.f38) Tryd.func38 rfl (by kernel_rfl) rfl]
 have onv:=And.intro hI.one' hI.cells
 obtain ⟨K,hK⟩:∃K:Heap,K=H++[⟨[.int .i64 w,.int .i64 h,v],0,45⟩,⟨[],0,3⟩]:=⟨_,rfl⟩
 have o0:Ow Fl.int 3 K (.slice (some ⟨H.length+1,0,some 0⟩) 0 0) []:=by rw [hK];exact Ow.new (k:=1) rfl rfl rfl rfl
 have cK:Chg H K []:=by rw [hK];exact Chg.app _
 have bM:K[H.length]? = some ⟨[.int .i64 w,.int .i64 h,v],0,45⟩:=by rw [hK];simp
 have lx2:=(hx.app [⟨[.int .i64 w,.int .i64 h,v],0,45⟩,⟨[],0,3⟩]).rd.len (P:=Tryd.prog) (ty:=38) (by simp)
 rw [← hK] at lx2
 have hKs:=hK.symm
 simp [onv]
 rw [hKs]
 clear hK hKs
 simp [lx2]
 refine U6 (fun n t H'=>∃(i:Nat) (s:Value),n=xs.length-i∧i≤xs.length∧t 2=.pointer (some ⟨H.length,0,some 0⟩)∧t 5=s∧t 9=u∧t 10=.int .i64 xs.length∧t 11=.int .i64 i∧(∀j,j<i→stR w h b xs j)∧
  Ow Fl.int 3 H' s (ndR w h xs i)∧Chg H H' []∧H'[H.length]? = some ⟨[.int .i64 w,.int .i64 h,v],0,45⟩∧∀j∈ids s,H.length+1≤j) ?_ (n:=xs.length)
  ⟨0,.slice (some ⟨H.length+1,0,some 0⟩) 0 0,rfl,by omega,by simp,by simp,by simp,by simp,by simp,by omega,o0,cK,bM,by simp⟩
 rintro n t H' ⟨i,s,rfl,hi,t2,t5,t9,t10,t11,hs,o,ch,bM,ns⟩ ih
 simp [t2,t5,t9,t10,t11]
 refine Wu ?_ ?_<;>intro hlt
 ·have hI':=(hI.rd.chg ch (by simp)).isI
  have hx':=(hx.rd.chg ch (by simp)).isI
  have p1:=Qt hx' hlt
  have hc:=fun F=>Ut (frz:=F) w h v b (G xs i) hI' hl
  have w1:∀[Inhabited Unit],IntKind.i64.wrap ((i:Int)+1)=((i+1:Nat):Int):=by intro _;rw [w64 (by omega) (by omega)];omega
  have no:¬stR w h b xs i→RtRes H (routeN w h b xs) (.slice none 0 0) H':=fun hh=>by
   rw [routeN,if_neg (fun rk=>hh (rk i hlt))]
   exact ⟨.inl ⟨rfl,rfl⟩,ch,by simp⟩
  by_cases hm1:meshOk w h b
  case neg=>
   simp [t2,t5,t9,t10,t11,p1,VM.look,bM,onv,hc,hm1]
   exact no fun hh=>hm1 hh.1.1
  by_cases hm2:has w h b (G xs i)
  case neg=>
   simp [t2,t5,t9,t10,t11,p1,VM.look,bM,onv,hc,hm1,hm2]
   exact no fun hh=>hm2 hh.1.2
  have hr:=Y2 hm2
  have ld:=hm2.1
  have en:=fun F=>T3 (frz:=F) w h v b (G xs i) hI' ld
  have td:(G xs i).tdiv 4=G xs i/4:=Int.tdiv_eq_ediv_of_nonneg hr.1
  have wd:=@w6 (G xs i/4) (by omega)
  have nl:=Xg w h xs i
  have ns2:=Vh w h xs i
  have fin:∀(t':Env) (z:Value) (H4:Heap),stR w h b xs i→t' 2=.pointer (some ⟨H.length,0,some 0⟩)∧t' 5=z∧t' 9=u∧t' 10=.int .i64 xs.length∧t' 11=.int .i64 (i+1)→Ow Fl.int 3 H4 z (ndR w h xs (i+1))→Chg H H4 []→H4[H.length]? = some ⟨[.int .i64 w,.int .i64 h,v],0,45⟩→(∀j∈ids z,H.length+1≤j)→_:=
   fun t' z H4 hst ⟨k2,k5,k9,k10,k11⟩ ko kc kb kn=>ih (xs.length-(i+1)) t' H4 ⟨i+1,z,rfl,by omega,k2,k5,k9,k10,by rw [k11];rfl,fun j hj=>by
    rcases Nat.lt_succ_iff_lt_or_eq.1 hj with q|q
    ·exact hs j q
    ·rw [q];exact hst,ko,kc,kb,kn⟩ (by omega)
  have lo:=o.lt
  by_cases i0:i=0
  ·subst i0
   simp only [Int.natCast_zero] at p1 w1 fin
   rw [if_pos rfl] at ns2
   rw [Int.natCast_zero] at t11
   have e0:ndR w h xs 0=[]:=rfl
   rw [e0] at o
   have st:stR w h b xs 0:=⟨⟨hm1,hm2⟩,fun hh=>absurd hh (by omega)⟩
   obtain ⟨s1,H4,hap,o4,c4,n4⟩:=o.push (P:=Tryd.prog) (frz:=H.length) (ty:=38) (a:=G xs 0/4) (by simp) rfl (by simp) (fun j hj=>by have:=ns j hj;omega)
   simp at hap
   have b0:∀L,(H'++L)[H.length]? = some ⟨[.int .i64 w,.int .i64 h,v],0,45⟩:=fun L=>Qf bM L
   have ns1:∀j∈ids s1,H.length+1≤j:=fun j hj=>by
    rcases n4 j hj with q|q
    ·exact ns j q
    ·have:=Xt bM;omega
   have ch4:Chg H H4 []:=ch.trans' c4 (fun j hj=>.inr (by have:=ns j hj;omega))
   have b4:=Qn bM c4 (fun hh=>by have:=ns _ hh;omega)
   have hI4:=(hI.rd.chg ch4 (by simp)).isI
   have en':∀F,vcall C F 59 [.agg #[.int .i64 w,.int .i64 h,v],.int .i64 (G xs 0)] H4=some (.int .i64 (nxR w h (G xs 0)),H4):=fun F=>T3 (frz:=F) w h v b (G xs 0) hI4 ld
   obtain ⟨s2,H5,hap2,o5,c5,n5⟩:=o4.push (P:=Tryd.prog) (frz:=H.length) (ty:=38) (a:=nxR w h (G xs 0)) (by simp) rfl (by simp) (fun j hj=>by have:=ns1 j hj;omega)
   simp at hap2
   have lch:=ch.1
   simp [t2,t5,t9,t10,t11,p1,VM.look,bM,onv,hc,hm1,hm2,td,wd,en',w1,hap,hap2,b4,hlt]
   have wr1:IntKind.i64.wrap 1=1:=by decide
   refine fin _ s2 H5 st ⟨by simp [t2],by simp,by simp [t9],by simp [t10],by simp [wr1]⟩ (by rw [ns2];simpa using o5) (ch4.trans' c5 (fun j hj=>.inr (by have:=ns1 j hj;omega))) (Qn b4 c5 (fun hh=>by have:=ns1 _ hh;omega)) (fun j hj=>?_)
   rcases n5 j hj with q|q
   ·exact ns1 j q
   ·have:=Xt b4;omega
  ·have ip:0<i:=by omega
   rw [if_neg i0] at ns2 nl
   have p2:=Qt o.rd.isI (k:=i) (by omega)
   rw [R2 w h xs (by omega)] at p2
   by_cases hq:G xs i/4=nxR w h (G xs (i-1))
   ·have st:stR w h b xs i:=⟨⟨hm1,hm2⟩,fun _=>hq⟩
    have bM4:∀L,(H'++L)[H.length]? = some ⟨[.int .i64 w,.int .i64 h,v],0,45⟩:=fun L=>Qf bM L
    obtain ⟨s1,H4,hap,o4,c4,n4⟩:=o.push (P:=Tryd.prog) (frz:=H.length) (ty:=38) (a:=nxR w h (G xs i)) (by simp) rfl (by omega) (fun j hj=>by have:=ns j hj;omega)
    simp at hap
    have en':∀F,vcall C F 59 [.agg #[.int .i64 w,.int .i64 h,v],.int .i64 (G xs i)] H'=some (.int .i64 (nxR w h (G xs i)),H'):=en
    have lch:=ch.1
    have wq:∀[Inhabited Unit],IntKind.i64.wrap (nxR w h (G xs (i-1)))=nxR w h (G xs (i-1)):=by intro _;rw [← hq];exact wd
    simp [t2,t5,t9,t10,t11,p1,VM.look,bM,onv,hc,hm1,hm2,ip,i0,p2,td,wd,hq,en',w1,hap,wq]
    refine fin _ s1 H4 st ⟨by simp [t2],by simp,by simp [t9],by simp [t10],by simp⟩ (by rw [ns2];exact o4) (ch.trans' c4 (fun j hj=>.inr (by have:=ns j hj;omega))) (Qn bM c4 (fun hh=>by have:=ns _ hh;omega)) (fun j hj=>?_)
    rcases n4 j hj with q|q
    ·exact ns j q
    ·have:=Xt bM;omega
   ·simp [t2,t5,t9,t10,t11,p1,VM.look,bM,onv,hc,hm1,hm2,ip,i0,p2,td,wd,hq]
    exact no fun hh=>hq (hh.2 (by omega))
 ·have:i=xs.length:=by omega
  subst this
  simp [t5]
  have rk:rtOk w h b xs:=fun j hj=>hs j hj
  rw [routeN,if_pos rk]
  exact ⟨o,ch,fun j hj=>by have:=ns j hj;omega⟩
theorem Z7 (w h:Int) (v u:Value) (b xs:List Int) (hI:IsI H v b) (hx:IsI H u xs) (hl:b.length≤1073741824) (lx:xs.length≤1048576) :
 wp (vcall C frz 35 [.agg #[.int .i64 w,.int .i64 h,v],u] H) (RtRes H (routeN w h b xs)):=by
 rw [Qb (fn:=Tryd.f35) Tryd.func35 rfl (by kernel_rfl) rfl]
 have onv:=And.intro hI.one' hI.cells
 obtain ⟨K,hK⟩:∃K:Heap,K=H++[⟨[.int .i64 w,.int .i64 h,v],0,45⟩,⟨[],0,3⟩]:=⟨_,rfl⟩
 have o0:Ow Fl.int 3 K (.slice (some ⟨H.length+1,0,some 0⟩) 0 0) []:=by rw [hK];exact Ow.new (k:=1) rfl rfl rfl rfl
 have cK:Chg H K []:=by rw [hK];exact Chg.app _
 have bM:K[H.length]? = some ⟨[.int .i64 w,.int .i64 h,v],0,45⟩:=by rw [hK];simp
 have mk:=fun F=>Sz (frz:=F) w h v b (hI.app [⟨[.int .i64 w,.int .i64 h,v],0,45⟩,⟨[],0,3⟩]) hl
 rw [← hK] at mk
 have hKs:=hK.symm
 simp [onv]
 rw [hKs]
 clear hK hKs
 simp [VM.look,bM,onv,mk]
 refine U6 (fun n t H'=>∃(i:Nat) (s:Value),n=xs.length-i∧i≤xs.length∧t 2=.pointer (some ⟨H.length,0,some 0⟩)∧t 5=s∧t 1=u∧t 6=.bool (decide (meshOk w h b))∧t 7=.int .i64 i∧(∀j,j<i→stR w h b xs j)∧
  Ow Fl.int 3 H' s (ndR w h xs i)∧Chg H H' []∧H'[H.length]? = some ⟨[.int .i64 w,.int .i64 h,v],0,45⟩∧∀j∈ids s,H.length+1≤j) ?_ (n:=xs.length)
  ⟨0,.slice (some ⟨H.length+1,0,some 0⟩) 0 0,rfl,by omega,by simp,by simp,by simp,by simp,by simp,by omega,o0,cK,bM,by simp⟩
 rintro n t H' ⟨i,s,rfl,hi,t2,t5,t1,t6,t7,hs,o,ch,bM,ns⟩ ih
 have lx2:=fun L=>(((hx.rd.chg ch (by simp)).isI).app L).rd.len (P:=Tryd.prog) (ty:=38) (by simp)
 have lx20:=lx2 []
 simp only [List.append_nil] at lx20
 simp [t2,t5,t1,t6,t7,lx20]
 refine Wu ?_ ?_<;>intro hlt
 ·have hI':=(hI.rd.chg ch (by simp)).isI
  have hx':=(hx.rd.chg ch (by simp)).isI
  have p1:=Qt hx' hlt
  have hc:=fun F=>Rg (frz:=F) w h v b (G xs i) hI' hl
  have w1:∀[Inhabited Unit],IntKind.i64.wrap ((i:Int)+1)=((i+1:Nat):Int):=by intro _;rw [w64 (by omega) (by omega)];omega
  have no:¬stR w h b xs i→RtRes H (routeN w h b xs) (.slice (some ⟨H'.length,0,some 0⟩) 0 0) (H'++[⟨[],0,3⟩]):=fun hh=>by
   rw [routeN,if_neg (fun rk=>hh (rk i hlt))]
   exact ⟨Ow.new0 rfl rfl rfl rfl,ch.trans (Chg.app _),by have:=ch.1;simp;omega⟩
  by_cases hm1:meshOk w h b
  case neg=>
   simp [t2,t5,t1,t6,t7,p1,VM.look,bM,onv,hc,hm1]
   exact no fun hh=>hm1 hh.1.1
  by_cases hm2:has w h b (G xs i)
  case neg=>
   simp [t2,t5,t1,t6,t7,p1,VM.look,bM,onv,hc,hm1,hm2]
   exact no fun hh=>hm2 hh.1.2
  have hr:=Y2 hm2
  have ld:=hm2.1
  have en:=fun F=>W6 (frz:=F) (H:=H') w h (G xs i/4) (G xs i%4)
  have td:(G xs i).tdiv 4=G xs i/4:=Int.tdiv_eq_ediv_of_nonneg hr.1
  have tm:(G xs i).tmod 4=G xs i%4:=Int.tmod_eq_emod_of_nonneg hr.1
  have wd:=@w6 (G xs i/4) (by omega)
  have nl:=Xg w h xs i
  have ns2:=Vh w h xs i
  have fin:∀(t':Env) (z:Value) (H4:Heap),stR w h b xs i→t' 2=.pointer (some ⟨H.length,0,some 0⟩)∧t' 5=z∧t' 1=u∧t' 6=.bool (decide (meshOk w h b))∧t' 7=.int .i64 (i+1)→Ow Fl.int 3 H4 z (ndR w h xs (i+1))→Chg H H4 []→H4[H.length]? = some ⟨[.int .i64 w,.int .i64 h,v],0,45⟩→(∀j∈ids z,H.length+1≤j)→_:=
   fun t' z H4 hst ⟨k2,k5,k9,k10,k11⟩ ko kc kb kn=>ih (xs.length-(i+1)) t' H4 ⟨i+1,z,rfl,by omega,k2,k5,k9,k10,by rw [k11];rfl,fun j hj=>by
    rcases Nat.lt_succ_iff_lt_or_eq.1 hj with q|q
    ·exact hs j q
    ·rw [q];exact hst,ko,kc,kb,kn⟩ (by omega)
  have lo:=o.lt
  by_cases i0:i=0
  ·subst i0
   simp only [Int.natCast_zero] at p1 w1 fin
   rw [if_pos rfl] at ns2
   rw [Int.natCast_zero] at t7
   have e0:ndR w h xs 0=[]:=rfl
   rw [e0] at o
   have st:stR w h b xs 0:=⟨⟨hm1,hm2⟩,fun hh=>absurd hh (by omega)⟩
   obtain ⟨s1,H4,hap,o4,c4,n4⟩:=o.push (P:=Tryd.prog) (frz:=H.length) (ty:=38) (a:=G xs 0/4) (by simp) rfl (by simp) (fun j hj=>by have:=ns j hj;omega)
   simp at hap
   have b0:∀L,(H'++L)[H.length]? = some ⟨[.int .i64 w,.int .i64 h,v],0,45⟩:=fun L=>Qf bM L
   have ns1:∀j∈ids s1,H.length+1≤j:=fun j hj=>by
    rcases n4 j hj with q|q
    ·exact ns j q
    ·have:=Xt bM;omega
   have ch4:Chg H H4 []:=ch.trans' c4 (fun j hj=>.inr (by have:=ns j hj;omega))
   have b4:=Qn bM c4 (fun hh=>by have:=ns _ hh;omega)
   have hI4:=(hI.rd.chg ch4 (by simp)).isI
   have en':∀F,vcall C F 57 [.agg #[.int .i64 w,.int .i64 h],.int .i64 (G xs 0/4),.int .i64 (G xs 0%4)] H4=some (.int .i64 (nxR w h (G xs 0)),H4):=fun F=>W6 (frz:=F) w h (G xs 0/4) (G xs 0%4)
   obtain ⟨s2,H5,hap2,o5,c5,n5⟩:=o4.push (P:=Tryd.prog) (frz:=H.length) (ty:=38) (a:=nxR w h (G xs 0)) (by simp) rfl (by simp) (fun j hj=>by have:=ns1 j hj;omega)
   simp at hap2
   have lch:=ch.1
   simp [t2,t5,t1,t6,t7,p1,VM.look,bM,onv,hc,hm1,hm2,td,tm,wd,en',w1,hap,hap2,b4,hlt]
   have wr1:IntKind.i64.wrap 1=1:=by decide
   refine fin _ s2 H5 st ⟨by simp [t2],by simp,by simp [t1],by simp [t6,hm1],by simp [wr1]⟩ (by rw [ns2];simpa using o5) (ch4.trans' c5 (fun j hj=>.inr (by have:=ns1 j hj;omega))) (Qn b4 c5 (fun hh=>by have:=ns1 _ hh;omega)) (fun j hj=>?_)
   rcases n5 j hj with q|q
   ·exact ns1 j q
   ·have:=Xt b4;omega
  ·have ip:0<i:=by omega
   rw [if_neg i0] at ns2 nl
   have p2:=Qt o.rd.isI (k:=i) (by omega)
   rw [R2 w h xs (by omega)] at p2
   by_cases hq:G xs i/4=nxR w h (G xs (i-1))
   ·have st:stR w h b xs i:=⟨⟨hm1,hm2⟩,fun _=>hq⟩
    have bM4:∀L,(H'++L)[H.length]? = some ⟨[.int .i64 w,.int .i64 h,v],0,45⟩:=fun L=>Qf bM L
    obtain ⟨s1,H4,hap,o4,c4,n4⟩:=o.push (P:=Tryd.prog) (frz:=H.length) (ty:=38) (a:=nxR w h (G xs i)) (by simp) rfl (by omega) (fun j hj=>by have:=ns j hj;omega)
    simp at hap
    have en':∀F,vcall C F 57 [.agg #[.int .i64 w,.int .i64 h],.int .i64 (G xs i/4),.int .i64 (G xs i%4)] H'=some (.int .i64 (nxR w h (G xs i)),H'):=en
    have lch:=ch.1
    have en2:=fun F=>by have:=en' F;rw [hq] at this;exact this
    have wq:∀[Inhabited Unit],IntKind.i64.wrap (nxR w h (G xs (i-1)))=nxR w h (G xs (i-1)):=by intro _;rw [← hq];exact wd
    simp [t2,t5,t1,t6,t7,p1,VM.look,bM,onv,hc,hm1,hm2,ip,i0,p2,td,tm,wd,hq,en',en2,w1,hap,wq]
    refine fin _ s1 H4 st ⟨by simp [t2],by simp,by simp [t1],by simp [t6,hm1],by simp⟩ (by rw [ns2];exact o4) (ch.trans' c4 (fun j hj=>.inr (by have:=ns j hj;omega))) (Qn bM c4 (fun hh=>by have:=ns _ hh;omega)) (fun j hj=>?_)
    rcases n4 j hj with q|q
    ·exact ns j q
    ·have:=Xt bM;omega
   ·simp [t2,t5,t1,t6,t7,p1,VM.look,bM,onv,hc,hm1,hm2,ip,i0,p2,td,tm,wd,hq]
    exact no fun hh=>hq (hh.2 (by omega))
 ·have:i=xs.length:=by omega
  subst this
  simp [t5]
  have rk:rtOk w h b xs:=fun j hj=>hs j hj
  rw [routeN,if_pos rk]
  exact ⟨o,ch,fun j hj=>by have:=ns j hj;omega⟩
end Go.Proofs.YtgemlndinpcdkaaDoor.V
set_option linter.all false
namespace Go.Proofs.YtgemlndinpcdkaaDoor.V
open Go Go.VM Go.Proofs
set_option maxRecDepth 10000
def portOf (w h:Int) (T:List Int) (a to:Int):Int:=rd T (a*cnt w h+to)
def stepOk (w h:Int) (b T:List Int) (a to:Int):Prop:=inR 0 (portOf w h T a to) 3∧has w h b (4*a+portOf w h T a to)
instance (w h:Int) (b T:List Int) (a to:Int):Decidable (stepOk w h b T a to):=inferInstanceAs (Decidable (_∧_))
def walkN (w h:Int) (b T:List Int) (to:Int):Nat→Int→List Int→List Int
 | 0,a,out=>if portOf w h T a to=4 then (if a=to then out else []) else []
 | f+1,a,out=>if portOf w h T a to=4 then (if a=to then out else []) else
  if stepOk w h b T a to then walkN w h b T to f (next w h a (portOf w h T a to)) (out++[4*a+portOf w h T a to]) else []
def walk (w h:Int) (b T:List Int) (a to:Int):List Int:=walkN w h b T to (cnt w h).toNat a []
def tsized (w h:Int) (b T:List Int):Prop:=meshOk w h b∧(T.length:Int)=cnt w h*cnt w h
instance (w h:Int) (b T:List Int):Decidable (tsized w h b T):=inferInstanceAs (Decidable (_∧_))
def tableOk (w h:Int) (b T:List Int):Prop:=tsized w h b T∧∀a,a<(cnt w h).toNat→∀c,c<(cnt w h).toNat→(a=c→portOf w h T a a=4)∧(a≠c→walk w h b T a c≠[])
instance (w h:Int) (b T:List Int):Decidable (tableOk w h b T):=inferInstanceAs (Decidable (_∧_))
theorem Wz {w h x y:Int} (hx:0≤nodeAt w h x y):isN w h (nodeAt w h x y):=by
 refine ⟨hx,?_⟩
 unfold nodeAt at hx ⊢
 split
 ·rename_i h1
  obtain ⟨h1,h2,h3⟩:=h1
  have hm:=Qy h1
  have c2:y*w≤(h-1)*w:=Int.mul_le_mul_of_nonneg_right (by omega) (by have:=h1.1.1;omega)
  rw [Int.sub_mul,Int.mul_comm h w] at c2
  rw [cnt,if_pos h1]
  omega
 ·rename_i h1;rw [if_neg h1] at hx;omega
theorem R0 {w h a p:Int} (hx:0≤next w h a p):isN w h (next w h a p):=by
 unfold next at hx ⊢
 by_cases h1:isN w h a
 ·rw [if_pos h1] at hx ⊢
  by_cases p0:p=0
  ·rw [if_pos p0] at hx ⊢;exact Wz hx
  rw [if_neg p0] at hx ⊢
  by_cases p1:p=1
  ·rw [if_pos p1] at hx ⊢;exact Wz hx
  rw [if_neg p1] at hx ⊢
  by_cases p2:p=2
  ·rw [if_pos p2] at hx ⊢;exact Wz hx
  rw [if_neg p2] at hx ⊢
  by_cases p3:p=3
  ·rw [if_pos p3] at hx ⊢;exact Wz hx
  rw [if_neg p3] at hx ⊢
  by_cases p4:p=4
  ·rw [if_pos p4] at hx ⊢;exact h1
  rw [if_neg p4] at hx;omega
 ·rw [if_neg h1] at hx;omega
end Go.Proofs.YtgemlndinpcdkaaDoor.V
set_option linter.all false
namespace Go.Proofs.YtgemlndinpcdkaaDoor.V
open Go Go.VM
theorem Sa {s:List Int} {j:Nat} (h:j<s.length):rd s (j:Int)=s[j]:=by simp [rd,List.getD_eq_getElem?_getD,h]
theorem Na {s:List Int} {k:Int} (h0:0≤k) (h1:k<s.length):rd s k∈s:=by
 obtain ⟨i,rfl⟩:=Int.eq_ofNat_of_zero_le h0
 rw [Sa (by omega)];exact List.getElem_mem _
def endC (w h c:Int):Int:=next w h (c/4) (c%4)
def backC (w h c:Int):Int:=4*endC w h c+opp (c%4)
def link (w h:Int) (b:List Int) (c:Int):Prop:=has w h b c∧has w h b (backC w h c)
instance (w h:Int) (b:List Int) (c:Int):Decidable (link w h b c):=inferInstanceAs (Decidable (_∧_))
def neg (s:List Int):Nat:=s.countP (· < 0)
theorem Tn {s:List Int} {k x v:Int} (h0:0≤k) (h1:k<s.length) (hx:0≤x):rd (s.set k.toNat v) x=if x=k then v else rd s x:=by
 obtain ⟨i,rfl⟩:=Int.eq_ofNat_of_zero_le h0
 obtain ⟨j,rfl⟩:=Int.eq_ofNat_of_zero_le hx
 simp only [Int.toNat_natCast]
 by_cases hj:j<s.length
 ·rw [Sa (by simpa using hj),Sa hj,List.getElem_set]
  by_cases e:i=j
  ·subst e;simp
  ·rw [if_neg e,if_neg (by omega)]
 ·rw [if_neg (by omega)]
  simp [rd,hj]
theorem Su {s:List Int} {x:Int} (h0:0≤x) (h:rd s x<0):x<s.length:=by
 obtain ⟨j,rfl⟩:=Int.eq_ofNat_of_zero_le h0
 by_cases hj:j<s.length
 ·omega
 ·simp [rd,hj] at h
theorem T1 {s:List Int} {k v:Int} (h0:0≤k) (h1:k<s.length) (h:rd s k<0) (hv:0≤v):neg (s.set k.toNat v)+1=neg s:=by
 obtain ⟨i,rfl⟩:=Int.eq_ofNat_of_zero_le h0
 have hi:i<s.length:=by omega
 rw [Sa hi] at h
 unfold neg
 rw [Int.toNat_natCast,List.countP_set hi]
 have:0<s.countP (· < 0):=List.countP_pos_iff.2 ⟨_,List.getElem_mem hi,by simpa using h⟩
 rw [if_pos (by simpa using h),if_neg (by simp;omega)]
 omega
def vst (w h:Int) (b:List Int) (a d:Int) (x:List Int×List Int) (p:Nat):List Int×List Int:=
 if link w h b (4*a+p)∧rd x.1 (next w h a p)<0 then (x.1.set (next w h a p).toNat d,x.2++[next w h a p]) else x
def vis (w h:Int) (b:List Int) (a d:Int) (x:List Int×List Int):List Int×List Int:=(List.range 4).foldl (vst w h b a d) x
theorem Ss {w h:Int} {b:List Int} {a:Int} {p:Nat} (hp:p<4) (h1:link w h b (4*a+p)):isN w h a∧isN w h (next w h a p)∧endC w h (4*a+p)=next w h a p:=by
 obtain ⟨⟨⟨h2,h3⟩,_⟩,_⟩:=h1
 have e1:(4*a+(p:Int))/4=a:=by omega
 have e2:(4*a+(p:Int))%4=p:=by omega
 unfold endC
 rw [e1,e2] at h3 ⊢
 exact ⟨⟨by omega,by omega⟩,R0 h3,rfl⟩
structure BExt (w h:Int) (d:Int) (x y:List Int×List Int):Prop where
 len:y.1.length=x.1.length
 old:∀v,0≤v→0≤rd x.1 v→rd y.1 v=rd x.1 v
 new:∀v∈y.2,v∈x.2∨(isN w h v∧rd y.1 v=d)
 sum:neg y.1+y.2.length=neg x.1+x.2.length
 pre:∀v∈x.2,v∈y.2
 low:(∀v∈x.1,-1≤v∧v≤d)→∀v∈y.1,-1≤v∧v≤d
theorem BExt.rfl' {w h d:Int} {x:List Int×List Int}:BExt w h d x x:=⟨rfl,fun _ _ _=>rfl,fun _ h=>.inl h,rfl,fun _ h=>h,fun h=>h⟩
theorem BExt.trans {w h d:Int} {x y z:List Int×List Int} (hd:0≤d) (a:BExt w h d x y) (b:BExt w h d y z):BExt w h d x z where
 len:=b.len.trans a.len
 old v h0 h1:=by
  have e:=a.old v h0 h1
  rw [b.old v h0 (by omega),e]
 new v hv:=by
  rcases b.new v hv with h1|h1
  ·rcases a.new v h1 with h2|⟨h2,h3⟩
   ·exact .inl h2
   ·exact .inr ⟨h2,by rw [b.old v h2.1 (by omega),h3]⟩
  ·exact .inr h1
 sum:=b.sum.trans a.sum
 pre v h:=b.pre v (a.pre v h)
 low h:=b.low (a.low h)
theorem Pq {w h:Int} {b:List Int} {a d:Int} {x:List Int×List Int} {p:Nat} (hp:p<4) (hd:0≤d):BExt w h d x (vst w h b a d x p):=by
 unfold vst
 by_cases hc:link w h b (4*a+p)∧rd x.1 (next w h a p)<0
 ·rw [if_pos hc]
  obtain ⟨h1,h2,h3⟩:=Ss hp hc.1
  have h4:=Su h2.1 hc.2
  have:=T1 h2.1 h4 hc.2 hd
  refine ⟨by simp,fun v h0 h5=>?_,fun v hv=>?_,by simp;omega,fun v hv=>by simp [hv],fun hl v hv=>?_⟩
  ·simp only
   rw [Tn h2.1 h4 h0,if_neg (by intro e;subst e;omega)]
  ·simp only [List.mem_append,List.mem_singleton] at hv
   rcases hv with hv|rfl
   ·exact .inl hv
   ·exact .inr ⟨h2,by simp only;rw [Tn h2.1 h4 h2.1,if_pos rfl]⟩
  ·rcases List.mem_or_eq_of_mem_set hv with h6|rfl
   ·exact hl v h6
   ·omega
 ·rw [if_neg hc];exact BExt.rfl'
theorem Uf {w h:Int} {b:List Int} {a d:Int} (hd:0≤d):∀(l:List Nat) (x:List Int×List Int),(∀p∈l,p<4)→BExt w h d x (l.foldl (vst w h b a d) x)
 | [],x,_=>BExt.rfl'
 | p::l,x,hp=>(Pq (hp p (by simp)) hd).trans hd (Uf hd l _ (fun q hq=>hp q (by simp [hq])))
theorem Uw {w h:Int} {b:List Int} {a d:Int} (hd:0≤d) (x:List Int×List Int):BExt w h d x (vis w h b a d x):=Uf hd _ _ (by simp)
theorem Po {w h:Int} {b:List Int} {a d:Int} (s q q':List Int) (p:Nat):vst w h b a d (s,q++q') p=((vst w h b a d (s,q') p).1,q++(vst w h b a d (s,q') p).2):=by
 unfold vst
 simp only
 split<;>simp
theorem Uk {w h:Int} {b:List Int} {a d:Int} (q:List Int):∀(l:List Nat) (s q':List Int),l.foldl (vst w h b a d) (s,q++q')=((l.foldl (vst w h b a d) (s,q')).1,q++(l.foldl (vst w h b a d) (s,q')).2)
 | [],s,q'=>rfl
 | p::l,s,q'=>by
  rw [List.foldl_cons,List.foldl_cons,Po]
  exact Uk q l _ _
theorem Ps {w h:Int} {b:List Int} {a d:Int} (q s q':List Int):vis w h b a d (s,q++q')=((vis w h b a d (s,q')).1,q++(vis w h b a d (s,q')).2):=Uk q _ _ _
inductive Run (w h:Int) (b:List Int):List Int→List Int→List Int→Int→List Int→Prop
 | done (s:List Int) (d:Int):Run w h b s [] [] d s
 | level {s:List Int} {x:Int} {nx:List Int} {d:Int} {r:List Int}:Run w h b s (x::nx) [] (d+1) r→Run w h b s [] (x::nx) d r
 | node {s:List Int} {a:Int} {rest nx:List Int} {d:Int} {r:List Int}:Run w h b (vis w h b a d (s,nx)).1 rest (vis w h b a d (s,nx)).2 d r→Run w h b s (a::rest) nx d r
structure Inv (w h:Int) (s rest nx:List Int) (d:Int):Prop where
 len:(s.length:Int)=cnt w h
 fr:∀v∈rest,isN w h v∧rd s v=d-1
 nw:∀v∈nx,isN w h v∧rd s v=d
 one:1≤d
 sum:d+neg s+nx.length≤cnt w h
 low:∀v∈s,-1≤v∧v≤d
theorem Inv.level {w h:Int} {s nx:List Int} {x d:Int} (i:Inv w h s [] (x::nx) d):Inv w h s (x::nx) [] (d+1):=
 ⟨i.len,fun v hv=>⟨(i.nw v hv).1,by have:=(i.nw v hv).2;omega⟩,by simp,by have:=i.one;omega,by have:=i.sum;simp at this ⊢;omega,fun v hv=>by have:=i.low v hv;omega⟩
theorem Inv.node {w h:Int} {b s rest nx:List Int} {a d:Int} (i:Inv w h s (a::rest) nx d):Inv w h (vis w h b a d (s,nx)).1 rest (vis w h b a d (s,nx)).2 d:=by
 have h1:=i.one
 have e:=Uw (w:=w) (h:=h) (b:=b) (a:=a) (d:=d) (by omega) (s,nx)
 refine ⟨by rw [e.len];exact i.len,fun v hv=>?_,fun v hv=>?_,h1,?_,e.low i.low⟩
 ·obtain ⟨h2,h3⟩:=i.fr v (by simp [hv])
  exact ⟨h2,by rw [e.old v h2.1 (by simp only;omega)];exact h3⟩
 ·rcases e.new v hv with h2|h2
  ·obtain ⟨h3,h4⟩:=i.nw v h2
   exact ⟨h3,by rw [e.old v h3.1 (by simp only;omega)];exact h4⟩
  ·exact h2
 ·have:=e.sum;have:=i.sum;simp only at *;omega
theorem O1 {w h:Int} {b:List Int}:∀(m:Nat) (s rest nx:List Int) (d:Int),3*neg s+2*nx.length+rest.length≤m→Inv w h s rest nx d→∃r,Run w h b s rest nx d r:=by
 intro m
 induction m with
 | zero=>
  intro s rest nx d hm i
  cases rest with
  | nil=>cases nx with
   | nil=>exact ⟨s,.done s d⟩
   | cons x nx=>simp at hm
  | cons a rest=>simp at hm
 | succ m ih=>
  intro s rest nx d hm i
  cases rest with
  | nil=>cases nx with
   | nil=>exact ⟨s,.done s d⟩
   | cons x nx=>
    obtain ⟨r,hr⟩:=ih s (x::nx) [] (d+1) (by simp at hm ⊢;omega) i.level
    exact ⟨r,.level hr⟩
  | cons a rest=>
   have e:=(Uw (w:=w) (h:=h) (b:=b) (a:=a) (d:=d) (by have:=i.one;omega) (s,nx)).sum
   have e2:=(Uw (w:=w) (h:=h) (b:=b) (a:=a) (d:=d) (by have:=i.one;omega) (s,nx))
   have h1:nx.length≤(vis w h b a d (s,nx)).2.length:=by
    have:=Ps (w:=w) (h:=h) (b:=b) (a:=a) (d:=d) nx s []
    rw [List.append_nil] at this;rw [this];simp
   simp only at e
   obtain ⟨r,hr⟩:=ih (vis w h b a d (s,nx)).1 rest (vis w h b a d (s,nx)).2 d (by simp at hm;omega) i.node
   exact ⟨r,.node hr⟩
def start (w h root:Int):List Int:=(List.replicate (cnt w h).toNat (-1)).set root.toNat 0
theorem Sj {w h root:Int} (hr:isN w h root):Inv w h (start w h root) [root] [] 1∧((neg (start w h root):Nat):Int)+1=cnt w h:=by
 have hc:=Wa w h
 have hl:root<((List.replicate (cnt w h).toNat (-1:Int)).length:Int):=by have:=hr.2;simp;omega
 have h0:rd (List.replicate (cnt w h).toNat (-1:Int)) root=-1:=by
  have:=Na hr.1 hl
  exact List.eq_of_mem_replicate this
 have h1:=T1 (v:=0) hr.1 hl (by omega) (by omega)
 have h2:neg (List.replicate (cnt w h).toNat (-1:Int))=(cnt w h).toNat:=by unfold neg;simp [List.countP_replicate]
 rw [h2] at h1
 have h3:((neg (start w h root):Nat):Int)+1=cnt w h:=by unfold start;omega
 refine ⟨⟨by unfold start;simp;omega,fun v hv=>?_,by simp,by omega,by simp;omega,fun v hv=>?_⟩,h3⟩
 ·simp only [List.mem_singleton] at hv
  subst hv
  refine ⟨hr,?_⟩
  unfold start;rw [Tn hr.1 hl hr.1,if_pos rfl];omega
 ·rcases List.mem_or_eq_of_mem_set hv with h6|rfl
  ·have:=List.eq_of_mem_replicate h6;omega
  ·omega
def rootOk (w h:Int) (b:List Int) (root:Int):Prop:=meshOk w h b∧isN w h root
instance (w h:Int) (b:List Int) (root:Int):Decidable (rootOk w h b root):=inferInstanceAs (Decidable (_∧_))
theorem Sv {w h:Int} (b:List Int) {root:Int} (hr:isN w h root):∃r,Run w h b (start w h root) [root] [] 1 r:=O1 _ _ _ _ _ (Nat.le_refl _) (Sj hr).1
noncomputable def depths (w h:Int) (b:List Int) (root:Int):List Int:=if H:rootOk w h b root then Classical.choose (Sv b H.2) else []
def conn (w h:Int) (b:List Int):Prop:=meshOk w h b∧-1∉depths w h b 0
noncomputable instance (w h:Int) (b:List Int):Decidable (conn w h b):=inferInstanceAs (Decidable (_∧_))
def toRoot (w h:Int) (b d:List Int) (i:Int) (p:Nat):Prop:=link w h b (4*i+p)∧rd d (next w h i p)=rd d i-1
instance (w h:Int) (b d:List Int) (i:Int) (p:Nat):Decidable (toRoot w h b d i p):=inferInstanceAs (Decidable (_∧_))
def Hi (d:Int) (x:List Int×List Int):Prop:=∀v∈x.1,v<d∨(v=d∧x.2≠[])
theorem Ox {w h:Int} {b:List Int} {a d:Int} {x:List Int×List Int} {p:Nat} (hx:Hi d x):Hi d (vst w h b a d x p):=by
 unfold vst
 split
 ·intro v hv
  rcases List.mem_or_eq_of_mem_set hv with h6|rfl
  ·rcases hx v h6 with h7|h7
   ·exact .inl h7
   ·exact .inr ⟨h7.1,by simp⟩
  ·exact .inr ⟨rfl,by simp⟩
 ·exact hx
theorem Vk {w h:Int} {b:List Int} {a d:Int}:∀(l:List Nat) (x:List Int×List Int),Hi d x→Hi d (l.foldl (vst w h b a d) x)
 | [],x,hx=>hx
 | p::l,x,hx=>Vk l _ (Ox hx)
theorem Run.hi {w h:Int} {b s rest nx:List Int} {d:Int} {r:List Int} (R:Run w h b s rest nx d r):Inv w h s rest nx d→Hi d (s,nx)→∀v∈r,v<cnt w h:=by
 induction R with
 | done s d=>
  intro i hh v hv
  rcases hh v hv with h1|h1
  ·have:=i.sum;simp at this;omega
  ·exact absurd rfl h1.2
 | level _ ih=>
  exact fun i hh=>ih i.level (fun v hv=>by rcases hh v hv with h1|h1<;>exact .inl (by omega))
 | node _ ih=>exact fun i hh=>ih i.node (Vk _ _ hh)
def inP (P:List Int) (a:Int):Prop:=0≤a∧a<P.length
instance (P:List Int) (a:Int):Decidable (inP P a):=inferInstanceAs (Decidable (_∧_))
def chain (t:List Int):Nat→Int→List Int
 | 0,_=>[]
 | k+1,v=>if inP t v then v::chain t k (rd t v) else []
end Go.Proofs.YtgemlndinpcdkaaDoor.V
set_option linter.all false
namespace Go.Proofs.YtgemlndinpcdkaaDoor.V
open Go Go.VM Go.Proofs
set_option maxRecDepth 10000
variable {frz:Nat} {H:Heap}
def spB:ByteArray:=⟨#[32]⟩
def segB (c:Int):ByteArray:=(spB++portB (c%4).toNat)++spB
def txR (w h:Int) (xs:List Int):Nat→ByteArray
 | 0=>decB (G xs 0/4).toNat
 | n+1=>txR w h xs n++(segB (G xs n)++decB (nxR w h (G xs n)).toNat)
def textR (w h:Int) (b xs:List Int):ByteArray:=if routeN w h b xs=[] then ⟨#[]⟩ else txR w h xs xs.length
theorem Wp (n:Nat):(decB n).size≤2:=by unfold decB;split<;>simp [ByteArray.size]
theorem Xo (n:Nat):(portB n).size≤5:=by unfold portB;(repeat' split)<;>simp [ByteArray.size]
theorem Sn (c:Int):(segB c).size≤7:=by
 have:=Xo (c%4).toNat
 have e:spB.size=1:=rfl
 unfold segB
 simp only [ByteArray.size_append]
 omega
theorem Zf (w h:Int) (xs:List Int):∀n,(txR w h xs n).size≤2+9*n
 | 0=>by have:=Wp (G xs 0/4).toNat;unfold txR;omega
 | n+1=>by
  have:=Zf w h xs n
  have:=Sn (G xs n)
  have:=Wp (nxR w h (G xs n)).toNat
  unfold txR
  simp only [ByteArray.size_append]
  omega
theorem T7 (w h:Int) (xs:List Int) {i n:Nat} (h0:i<n):G (ndR w h xs n) (i+1)=nxR w h (G xs i):=by
 unfold ndR
 rw [if_neg (by omega),T9 (by simp;omega)]
 simp
theorem Sg (w h:Int) (xs:List Int) {n:Nat} (h0:0<n):G (ndR w h xs n) 0=G xs 0/4:=by
 unfold ndR
 rw [if_neg (by omega)];rfl
theorem X5 (n:Nat) (h:n<100):vcall C frz 29 [.int .i64 n] H=some (.string (decB n),H):=(U4 n h).exact (by simp) rfl
theorem Zz (w h:Int) (v u:Value) (b xs:List Int) (hI:IsI H v b) (hx:IsI H u xs) (hl:b.length≤1073741824) (lx:xs.length≤1048576) :
 wp (vcall C frz 20 [.agg #[.int .i64 w,.int .i64 h,v],u] H) (fun r _=>r=.string (textR w h b xs)):=by
 rw [Qb (fn:=Tryd.f20) Tryd.func20 rfl (by kernel_rfl) rfl]
 have onv:=And.intro hI.one' hI.cells
 simp [onv,VM.look]
 refine W7 (Uz w h v u b xs (hI.app _) (hx.app _) hl lx) ?_
 rintro z H1 ⟨o,c1,n1⟩
 have lz:=o.rd.len (P:=Tryd.prog) (ty:=38) (by simp)
 have cH:Chg H H1 []:=(Chg.app _).trans c1
 have hx1:=(hx.rd.chg cH (by simp)).isI
 have lu:=hx1.rd.len (P:=Tryd.prog) (ty:=38) (by simp)
 simp [lz]
 refine Wu ?_ ?_<;>intro h0
 ·simp [textR,h0]
 ·have hr:rtOk w h b xs:=by
   refine Decidable.byContradiction fun hh=>h0 ?_
   rw [routeN,if_neg hh]
  have eN:routeN w h b xs=ndR w h xs xs.length:=if_pos hr
  rw [eN] at o h0
  have xl:0<xs.length:=by
   rcases Nat.eq_zero_or_pos xs.length with q|q
   ·exact absurd (List.length_eq_zero_iff.1 (by rw [Xg,if_pos q])) h0
   ·exact q
  have nl:(ndR w h xs xs.length).length=xs.length+1:=by rw [Xg,if_neg (by omega)]
  have rng:∀i,i<xs.length→(0≤G xs i∧G xs i<64)∧0≤nxR w h (G xs i)∧nxR w h (G xs i)<16:=fun i hi=>by
   have k:=(hr i hi).1.2
   exact ⟨Y2 k,k.1.2,(Zq w h _ _).2⟩
  have p0:=Qt o.rd.isI (k:=0) (by omega)
  rw [Sg w h xs xl,Int.natCast_zero] at p0
  have r0:=rng 0 xl
  obtain ⟨a,ha⟩:∃a:Nat,G xs 0/4=a:=⟨(G xs 0/4).toNat,by omega⟩
  have f0:=fun F=>Ys (frz:=F) (H:=H1) a (by omega)
  rw [ha] at p0
  simp [p0,f0,lu]
  have t0:decB a=txR w h xs 0:=by unfold txR;rw [ha];rfl
  rw [t0]
  refine U6 (fun m t H'=>∃i:Nat,m=xs.length-i∧i≤xs.length∧H'=H1∧t 5=z∧t 6=.string (txR w h xs i)∧t 19=u∧t 20=.int .i64 xs.length∧t 21=.int .i64 i) ?_ (n:=xs.length)
   ⟨0,rfl,by omega,rfl,by simp,by simp,by simp,by simp,by simp⟩
  rintro m t H' ⟨i,rfl,hi,rfl,t5,t6,t19,t20,t21⟩ ih
  simp [t5,t6,t19,t20,t21]
  refine Wu ?_ ?_<;>intro hlt
  ·have p1:=Qt hx1 hlt
   have p2:=Qt o.rd.isI (k:=i+1) (by omega)
   rw [T7 w h xs hlt] at p2
   have ri:=rng i hlt
   obtain ⟨c,hc⟩:∃c:Nat,G xs i=c:=⟨(G xs i).toNat,by omega⟩
   obtain ⟨q,hq⟩:∃q:Nat,nxR w h (G xs i)=q:=⟨(nxR w h (G xs i)).toNat,by omega⟩
   have tm:(c:Int).tmod 4=((c%4:Nat):Int):=by rw [Int.tmod_eq_emod_of_nonneg (by omega)];omega
   have tx:txR w h xs (i+1)=txR w h xs i++(segB (G xs i)++decB (nxR w h (G xs i)).toNat):=rfl
   have sg:segB (G xs i)=(spB++portB (c%4))++spB:=by unfold segB;rw [hc];rfl
   rw [sg,hq,Int.toNat_natCast] at tx
   obtain ⟨pp,hpp⟩:∃pp:Nat,c%4=pp:=⟨_,rfl⟩
   rw [hpp] at tm tx
   rw [hc] at p1
   rw [hq] at p2
   have p2a:vindexAddr Tryd.prog H' 38 z (.int .i64 ((i:Int)+1))=some (elp z (i+1)):=by simpa using p2.1
   have f1:=fun F=>Tx (frz:=F) (H:=H') pp (by omega)
   have f2:=fun F=>Ys (frz:=F) (H:=H') q (by omega)
   have e1:spB.size=1:=rfl
   have e2:=Xo pp
   have e3:=Wp q
   have e4:=Zf w h xs i
   have a1:=Q2 (x:=spB) (y:=portB pp) (by omega)
   have a2:=Q2 (x:=spB++portB pp) (y:=spB) (by simp only [ByteArray.size_append];omega)
   have a3:=Q2 (x:=spB++portB pp++spB) (y:=decB q) (by simp only [ByteArray.size_append];omega)
   have a4:=Q2 (x:=txR w h xs i) (y:=spB++portB pp++spB++decB q) (by simp only [ByteArray.size_append];omega)
   rw [← tx] at a4
   have w1:∀[Inhabited Unit],IntKind.i64.wrap ((i:Int)+1)=((i+1:Nat):Int):=by intro _;rw [w64 (by omega) (by omega)];omega
   simp [t5,t6,t19,t20,t21,p1]
   rw [X4 (h:=by kernel_rfl)]
   unfold spB at a1 a2 a3 a4
   simp [t5,t6,t19,t20,t21,tm,f1,a1,a2,a3,a4,w1,p2a,p2.2,f2]
   exact ih (xs.length-(i+1)) _ _ ⟨i+1,rfl,by omega,rfl,by simp [t5],by simp,by simp [t19],by simp [t20],by simp⟩ (by omega)
  ·have:i=xs.length:=by omega
   subst this
   simp [t6]
   rw [textR,if_neg (by rw [eN];exact h0)]
theorem Vc {K:Heap} {F:Nat} {v:Value} {x:ByteArray}:vappend Tryd.prog F K 55 9 v (.string x)=vappS Tryd.prog F K 55 9 v x:=rfl
theorem Un {P:Program} {s d e:TypeId} {v:Value} {xs:List Int} {b:ByteArray} (h:Rd Fl.u8 H v xs) (hx:xs=bI b) (hs:P.underlying s=some (.slice e)) (hu:isU8 P e=true) (hd:isStr P d=true):vconv P s d H v=some (.string b):=by
 have k:=Nc h hx hs hu hd
 rcases h with ⟨rfl,rfl⟩|⟨id,off,r,rfl,h2,h3⟩<;>exact k
def prR (w h:Int) (xs:List Int):Nat→List Int
 | 0=>[]
 | i+1=>bI (txR w h xs i)
theorem Zw (w h:Int) (v u:Value) (b xs:List Int) (hI:IsI H v b) (hx:IsI H u xs) (hl:b.length≤1073741824) (lx:xs.length≤1048576) :
 wp (vcall C frz 17 [.agg #[.int .i64 w,.int .i64 h,v],u] H) (fun r _=>r=.string (textR w h b xs)):=by
 rw [Qb (fn:=Tryd.f17) Tryd.func17 rfl (by kernel_rfl) rfl]
 have onv:=And.intro hI.one' hI.cells
 simp [onv,VM.look]
 refine W7 (Z7 w h v u b xs (hI.app _) (hx.app _) hl lx) ?_
 rintro z H1 ⟨o,c1,n1⟩
 have cH:Chg H H1 []:=(Chg.app _).trans c1
 obtain ⟨N,hN⟩:∃N,N=routeN w h b xs:=⟨_,rfl⟩
 rw [← hN] at o
 have nN:N=[]∨(0<xs.length∧N.length=xs.length+1∧rtOk w h b xs∧N=ndR w h xs xs.length):=by
  by_cases hr:rtOk w h b xs
  ·have eN:N=ndR w h xs xs.length:=by rw [hN];exact if_pos hr
   rcases Nat.eq_zero_or_pos xs.length with q|q
   ·left;rw [eN];exact List.length_eq_zero_iff.1 (by rw [Xg,if_pos q])
   ·right;exact ⟨q,by rw [eN,Xg,if_neg (by omega)],hr,eN⟩
  ·left;rw [hN];exact if_neg hr
 have Nl:N.length≤xs.length+1:=by
  rcases nN with q|q
  ·rw [q];simp
  ·omega
 obtain ⟨K,hK⟩:∃K,K=H1++[⟨[],0,5⟩]:=⟨_,rfl⟩
 have ob:Ow Fl.u8 5 K (.slice (some ⟨H1.length,0,some 0⟩) 0 0) []:=by rw [hK];exact Ow.new0 rfl rfl rfl rfl
 have oK:Ow Fl.int 3 K z N:=by rw [hK];exact o.app
 have cK:Chg H K []:=by rw [hK];exact cH.trans (Chg.app _)
 have l1:=cH.1
 have lo1:=o.lt
 simp
 rw [← hK]
 clear hK o
 have hst:isStr Tryd.prog 9=true:=by kernel_rfl
 have hu8:isU8 Tryd.prog 5=true:=by kernel_rfl
 refine U6 (fun m t H'=>∃(i:Nat) (s:Value),m=N.length-i∧i≤N.length∧t 1=u∧t 5=z∧t 6=s∧t 7=.int .i64 i∧Ow Fl.int 3 H' z N∧Ow Fl.u8 5 H' s (prR w h xs i)∧Chg H H' []∧∀j∈ids s,H.length≤j∧j∉ids z) ?_ (n:=N.length)
  ⟨0,.slice (some ⟨H1.length,0,some 0⟩) 0 0,rfl,by omega,by simp,by simp,by simp,by simp,oK,ob,cK,fun j hj=>by simp at hj;subst hj;exact ⟨l1,fun hh=>Nat.lt_irrefl _ (lo1 _ hh)⟩⟩
 rintro m t H' ⟨i,s,rfl,hi,t1,t5,t6,t7,o,ob,ch,ns⟩ ih
 have lz:=o.rd.len (P:=Tryd.prog) (ty:=38) (by simp)
 simp [t1,t5,t6,t7,lz]
 refine Wu ?_ ?_<;>intro hlt
 ·obtain ⟨xl,nl,hr,eN⟩:(0<xs.length∧N.length=xs.length+1∧rtOk w h b xs∧N=ndR w h xs xs.length):=by
   rcases nN with q|q
   ·rw [q] at hlt;simp at hlt
   ·exact q
  have rng:∀i,i<xs.length→(0≤G xs i∧G xs i<64)∧0≤nxR w h (G xs i)∧nxR w h (G xs i)<16:=fun i hi=>by
   have k:=(hr i hi).1.2
   exact ⟨Y2 k,k.1.2,(Zq w h _ _).2⟩
  have w1:∀[Inhabited Unit],IntKind.i64.wrap ((i:Int)+1)=((i+1:Nat):Int):=by intro _;rw [w64 (by omega) (by omega)];omega
  by_cases i0:i=0
  ·subst i0
   have p2:=Qt o.rd.isI (k:=0) (by omega)
   rw [eN,Sg w h xs xl,Int.natCast_zero] at p2
   have r0:=rng 0 xl
   obtain ⟨a,ha⟩:∃a:Nat,G xs 0/4=a:=⟨(G xs 0/4).toNat,by omega⟩
   rw [ha] at p2
   have f0:=fun F=>X5 (frz:=F) (H:=H') a (by omega)
   obtain ⟨s1,H4,hap,o4,c4,n4⟩:=Va (P:=Tryd.prog) (e:=5) (ty:=55) (u:=9) (frz:=H.length) (b:=decB a) ob (by simp) hst hu8 (by have:=Wp a;simp [prR];omega) (fun j hj=>(ns j hj).1)
   rw [Int.natCast_zero] at t7
   simp [t1,t5,t6,t7,p2,f0,Vc,hap]
   have wr1:IntKind.i64.wrap 1=1:=by decide
   have tx0:decB a=txR w h xs 0:=by unfold txR;rw [ha];rfl
   refine ih (N.length-1) _ _ ⟨1,s1,rfl,by omega,by simp [t1],by simp [t5],by simp,by simp [wr1],o.chg c4 (fun j hj hh=>(ns j hh).2 hj),by rw [tx0] at o4;exact o4,ch.trans' c4 (fun j hj=>.inr (ns j hj).1),fun j hj=>?_⟩ (by omega)
   rcases n4 j hj with q|q
   ·exact ns j q
   ·have:=ch.1;exact ⟨by omega,fun hh=>by have:=o.lt j hh;omega⟩
  ·obtain ⟨k,rfl⟩:∃k,i=k+1:=⟨i-1,by omega⟩
   have hk:k<xs.length:=by omega
   have hx':=(hx.rd.chg ch (by simp)).isI
   have p1:=Qt hx' hk
   have ri:=rng k hk
   obtain ⟨c,hc⟩:∃c:Nat,G xs k=c:=⟨(G xs k).toNat,by omega⟩
   obtain ⟨q,hq⟩:∃q:Nat,nxR w h (G xs k)=q:=⟨(nxR w h (G xs k)).toNat,by omega⟩
   have tm:(c:Int).tmod 4=((c%4:Nat):Int):=by rw [Int.tmod_eq_emod_of_nonneg (by omega)];omega
   have tx:txR w h xs (k+1)=txR w h xs k++(segB (G xs k)++decB (nxR w h (G xs k)).toNat):=rfl
   have sg:segB (G xs k)=(spB++portB (c%4))++spB:=by unfold segB;rw [hc];rfl
   rw [sg,hq,Int.toNat_natCast] at tx
   obtain ⟨pp,hpp⟩:∃pp:Nat,c%4=pp:=⟨_,rfl⟩
   rw [hpp] at tm tx
   rw [hc] at p1
   have f1:=fun F=>Vj (frz:=F) (H:=H') pp (by omega)
   have e1:spB.size=1:=rfl
   have e2:=Xo pp
   have e3:=Wp q
   have e4:=Zf w h xs k
   have a1:=Q2 (x:=spB) (y:=portB pp) (by omega)
   have a2:=Q2 (x:=spB++portB pp) (y:=spB) (by simp only [ByteArray.size_append];omega)
   obtain ⟨s1,H4,hap,o4,c4,n4⟩:=Va (P:=Tryd.prog) (e:=5) (ty:=55) (u:=9) (frz:=H.length) (b:=spB++portB pp++spB) ob (by simp) hst hu8 (by simp only [prR,Tu,ByteArray.size_append];omega) (fun j hj=>(ns j hj).1)
   have oz4:=o.chg c4 (fun j hj hh=>(ns j hh).2 hj)
   have ns4:∀j∈ids s1,H.length≤j∧j∉ids z:=fun j hj=>by
    rcases n4 j hj with q|q
    ·exact ns j q
    ·have:=ch.1;exact ⟨by omega,fun hh=>by have:=o.lt j hh;omega⟩
   have ch4:Chg H H4 []:=ch.trans' c4 (fun j hj=>.inr (ns j hj).1)
   have p2:=Qt oz4.rd.isI (k:=k+1) (by omega)
   rw [eN,T7 w h xs hk,hq] at p2
   have p2a:vindexAddr Tryd.prog H4 38 z (.int .i64 ((k:Int)+1))=some (elp z (k+1)):=by simpa using p2.1
   have f2:=fun F=>X5 (frz:=F) (H:=H4) q (by omega)
   obtain ⟨s2,H5,hap2,o5,c5,n5⟩:=Va (P:=Tryd.prog) (e:=5) (ty:=55) (u:=9) (frz:=H.length) (b:=decB q) o4 (by simp) hst hu8 (by simp only [prR,Tu,List.length_append,ByteArray.size_append];omega) (fun j hj=>(ns4 j hj).1)
   have wk:∀[Inhabited Unit],IntKind.i64.wrap (k:Int)=(k:Int):=by intro _;exact w64 (by omega) (by omega)
   have wk2:∀[Inhabited Unit],IntKind.i64.wrap ((k:Int)+1+1)=((k+1+1:Nat):Int):=by intro _;rw [w64 (by omega) (by omega)];omega
   have kp:(0:Int)<(k:Int)+1:=by omega
   unfold spB at a1 a2 hap
   simp [t1,t5,t6,t7,p1,tm,f1,a1,a2,Vc,hap,p2a,p2.2,f2,hap2,wk,wk2,kp]
   refine ih (N.length-(k+1+1)) _ _ ⟨k+1+1,s2,rfl,by omega,by simp [t1],by simp [t5],by simp,by simp,oz4.chg c5 (fun j hj hh=>(ns4 j hh).2 hj),?_,ch4.trans' c5 (fun j hj=>.inr (ns4 j hj).1),fun j hj=>?_⟩ (by omega)
   ·have e:prR w h xs (k+1+1)=prR w h xs (k+1)++bI (spB++portB pp++spB)++bI (decB q):=by
     show bI (txR w h xs (k+1))=bI (txR w h xs k)++_++_
     rw [tx,Rs,Rs,List.append_assoc]
    rw [e];exact o5
   ·rcases n5 j hj with q|q
    ·exact ns4 j q
    ·have:=ch4.1;exact ⟨by omega,fun hh=>by have:=oz4.lt j hh;omega⟩
 ·have hi':i=N.length:=by omega
  subst hi'
  have fb:prR w h xs N.length=bI (textR w h b xs):=by
   rw [textR,← hN]
   rcases nN with q|⟨q1,q2,-,-⟩
   ·rw [q];rfl
   ·rw [if_neg (fun hh=>by rw [hh] at q2;simp at q2),q2];rfl
  have cv:=Un (s:=55) (d:=9) (P:=Tryd.prog) ob.rd fb (by simp) hu8 hst
  simp [t6,cv]
theorem wr0:IntKind.i64.wrap 0=0:=by decide
abbrev dIntS:Dt Value (List Int):=dFlat Fl.int 3 1073741824
theorem Ze (v:Value) (xs:List Int) (hI:IsI H v xs) (hb:xs.length≤1073741824):wp (vcall C frz 19 [v] H) (dIntS.Made H xs):=by
 rw [Vd v xs hI hb]
 simp
 exact ⟨_,rfl,⟨Ow.new0 rfl (Wk xs).symm (by simp) rfl,hb⟩,Chg.app _,by simp [dFlat],Ub (.slice (some ⟨H.length,0,some 0⟩) xs.length 0)⟩
theorem S2 {a b:Value} {xs ys:List Int} (ha:dIntS.Ow H a xs) (hb:dIntS.Ow H b ys):vcall C frz 22 [a,b] H=some (.bool (decide (xs=ys)),H):=
 Vm a b xs ys ha.1.rd.isI hb.1.rd.isI ha.2
abbrev MeshD:=Int×Int×List Int
def dMesh:Dt Value MeshD where
 val v a:=.agg #[.int .i64 a.1,.int .i64 a.2.1,v]
 Ow H v a:=dIntS.Ow H v a.2.2
 ids:=VM.ids
 frame h k:=dIntS.frame h k
 lt h:=dIntS.lt h
theorem Qi (v:Value) (a:MeshD):dMesh.val v a=.agg #[.int .i64 a.1,.int .i64 a.2.1,v]:=rfl
theorem Yi {v:Value} {a:MeshD} (h:dMesh.Ow H v a):VM.one v=true∧v.cells=#[v]:=⟨h.1.rd.one',h.1.rd.cells⟩
theorem Ye {v:Value} {a:List Int} (h:dIntS.Ow H v a):VM.one v=true∧v.cells=#[v]:=⟨h.1.rd.one',h.1.rd.cells⟩
theorem Qk (v:Value) (a:List Int):dIntS.val v a=v:=rfl
theorem Zs (w h:Int) (v:Value) (b:List Int) (hI:IsI H v b) (hb:b.length≤1073741824):wp (vcall C frz 18 [.agg #[.int .i64 w,.int .i64 h,v]] H) (dMesh.Made H (w,h,b)):=by
 rw [S8 w h v b hI hb]
 simp
 exact ⟨_,rfl,⟨Ow.new0 rfl (Wk b).symm (by simp) rfl,hb⟩,Chg.app _,by simp [dMesh],Ub (.slice (some ⟨H.length,0,some 0⟩) b.length 0)⟩
theorem Rp {a b:Value} {x y:MeshD} (ha:dMesh.Ow H a x) (hb:dMesh.Ow H b y):vcall C frz 21 [dMesh.val a x,dMesh.val b y] H=some (.bool (decide (x=y)),H):=by
 obtain ⟨w,h,b1⟩:=x;obtain ⟨w',h',b2⟩:=y
 rw [Qi,Qi]
 have:=S3 (frz:=frz) w h w' h' a b b1 b2 ha.1.rd.isI hb.1.rd.isI ha.2
 rw [this]
 congr 3
 simp [and_assoc]
theorem Z0 {v u:Value} {m:MeshD} {xs:List Int} (o:dMesh.Ow H v m) (ox:dIntS.Ow H u xs) (lx:xs.length≤1048576):vcall C frz 20 [dMesh.val v m,dIntS.val u xs] H=some (.string (textR m.1 m.2.1 m.2.2 xs),H):=
 (Zz m.1 m.2.1 v u m.2.2 xs o.1.rd.isI ox.1.rd.isI o.2 lx).exact (by simp) rfl
theorem Za {v u:Value} {m:MeshD} {xs:List Int} (o:dMesh.Ow H v m) (ox:dIntS.Ow H u xs) (lx:xs.length≤1048576):vcall C frz 17 [dMesh.val v m,dIntS.val u xs] H=some (.string (textR m.1 m.2.1 m.2.2 xs),H):=
 (Zw m.1 m.2.1 v u m.2.2 xs o.1.rd.isI ox.1.rd.isI o.2 lx).exact (by simp) rfl
theorem law_FnExactFormatRoute_w {a0_0:Int} {a0_1:Int} {a0_2:List (Int)} {u0_2:Value} {a1:List (Int)} {u1:Value} (s0_2:IsS (Kn.int .i64) H u0_2 a0_2) (s1:IsS (Kn.int .i64) H u1 a1)
 (w0:(((Lit.int .i64 a0_0).wf=true)∧((Lit.int .i64 a0_1).wf=true))∧(a0_2.length≤maxLen∧∀x1∈a0_2,(Lit.int .i64 x1).wf=true)) (w1:a1.length≤maxLen∧∀x2∈a1,(Lit.int .i64 x2).wf=true) :
 wp (vcall C frz 5 [.agg #[.int .i64 a0_0,.int .i64 a0_1,u0_2],u1] H) (fun r _=>r=.bool true):=by
 have r0_2:=s0_2.ints.rd
 have r1:=s1.ints.rd
 have rl0_2:=fun (L:Heap)=>(Rd.app (L:=L) r0_2).len (P:=Tryd.prog) (ty:=38) (by simp)
 have rm0_2:=r0_2.len (P:=Tryd.prog) (ty:=38) (by simp)
 have rl1:=fun (L:Heap)=>(Rd.app (L:=L) r1).len (P:=Tryd.prog) (ty:=38) (by simp)
 have rm1:=r1.len (P:=Tryd.prog) (ty:=38) (by simp)
 rw [Qb (fn:=Tryd.f5) Tryd.func5 rfl (by kernel_rfl) rfl]
 have ro0_2:=And.intro r0_2.one' r0_2.cells
 have ro1:=And.intro r1.one' r1.cells
 simp [VM.look,ro0_2,rl0_2,rm0_2,ro1,rl1,rm1]
 refine Wu ?_ ?_<;>intro g1<;>simp [g1]
 try simp [VM.look,ro0_2,rl0_2,rm0_2,ro1,rl1,rm1]
 have sz0:=fun F (L:Heap)=>Rz (frz:=F) (H:=H++L) a0_0 a0_1 u0_2 a0_2 1048576 (Rd.isI (Rd.chg r0_2 ((Chg.refl (H:=H) []).trans (Chg.app [])) (by simp))) (by omega) (by omega) w0.2.1
 simp [VM.look,ro0_2,rl0_2,rm0_2,ro1,rl1,rm1,sz0]
 refine Wu ?_ ?_<;>intro g2<;>simp [g2]
 have t0:(a0_2.length:Int)≤1048576:=by split at g2<;>omega
 have f0:¬(1048576:Int)<(a0_2.length:Int):=by omega
 simp only [if_neg f0]
 try simp [VM.look,ro0_2,rl0_2,rm0_2,ro1,rl1,rm1,f0]
 refine W7 (Zs a0_0 a0_1 u0_2 a0_2 (Rd.isI (Rd.chg r0_2 ((Chg.refl (H:=H) []).trans (Chg.app [])) (by simp))) (by omega)) ?_
 rintro _ H1 ⟨v_x0,rfl,o_x0,c1,n_x0,d_x0⟩
 have l1:=c1.1
 try simp at l1
 have b1_2:=Qn ((Vn _ _).trans rfl) c1 (by simp)
 have cH1:Chg H H1 []:=((Chg.refl (H:=H) []).trans (Chg.app [])).trans c1
 have h_x0:=dMesh.lt o_x0
 try simp at n_x0
 have one_x0:=Yi o_x0
 simp [VM.look,b1_2,Qf b1_2,cH1.1,Nat.le_add_right_of_le cH1.1,one_x0,ro0_2,ro1,Qi,f0]
 refine W7 (Ze u1 a1 (Rd.isI (Rd.chg r1 cH1 (by simp))) (by omega)) ?_
 rintro _ H2 ⟨v_x1,rfl,o_x1,c2,n_x1,d_x1⟩
 have l2:=c2.1
 try simp at l2
 have b2_2:=Qn b1_2 c2 (by simp)
 have o2_x0:=Dt.chg0 o_x0 c2
 have cH2:Chg H H2 []:=(cH1).trans c2
 have h_x1:=dIntS.lt o_x1
 try simp at n_x1
 have one_x1:=Ye o_x1
 simp [VM.look,b2_2,Qf b2_2,cH2.1,Nat.le_add_right_of_le cH2.1,one_x0,one_x1,ro0_2,ro1,Qi,Qk,f0]
 have ex3:=fun F=>Za (frz:=F) (H:=H2) o2_x0 o_x1 (by omega)
 try simp only [Qi] at ex3
 try simp only [Qk] at ex3
 simp [VM.look,b2_2,Qf b2_2,cH2.1,Nat.le_add_right_of_le cH2.1,one_x0,one_x1,ro0_2,ro1,Qi,Qk,ex3,f0]
 refine W7 (Zs a0_0 a0_1 u0_2 a0_2 (Rd.isI (Rd.chg r0_2 cH2 (by simp))) (by omega)) ?_
 rintro _ H4 ⟨v_x2,rfl,o_x2,c4,n_x2,d_x2⟩
 have l4:=c4.1
 try simp at l4
 have b4_2:=Qn b2_2 c4 (by simp)
 have o4_x0:=Dt.chg0 o2_x0 c4
 have o4_x1:=Dt.chg0 o_x1 c4
 have cH4:Chg H H4 []:=(cH2).trans c4
 have h_x2:=dMesh.lt o_x2
 try simp at n_x2
 have one_x2:=Yi o_x2
 simp [VM.look,b4_2,Qf b4_2,cH4.1,Nat.le_add_right_of_le cH4.1,one_x0,one_x1,one_x2,ro0_2,ro1,Qi,Qk,f0]
 refine W7 (Ze u1 a1 (Rd.isI (Rd.chg r1 (cH4.trans (Chg.app [])) (by simp))) (by omega)) ?_
 rintro _ H5 ⟨v_x3,rfl,o_x3,c5,n_x3,d_x3⟩
 have l5:=c5.1
 try simp at l5
 have b5_7:=Qn ((Vn _ _).trans rfl) c5 (by simp)
 have b5_2:=Qn (Qf b4_2 _) c5 (by simp)
 have o5_x0:=Dt.chg0 (Dt.app o4_x0) c5
 have o5_x1:=Dt.chg0 (Dt.app o4_x1) c5
 have o5_x2:=Dt.chg0 (Dt.app o_x2) c5
 have cH5:Chg H H5 []:=(cH4.trans (Chg.app [])).trans c5
 have h_x3:=dIntS.lt o_x3
 try simp at n_x3
 have one_x3:=Ye o_x3
 simp [VM.look,b5_2,b5_7,Qf b5_2,Qf b5_7,cH5.1,Nat.le_add_right_of_le cH5.1,one_x0,one_x1,one_x2,one_x3,ro0_2,ro1,Qi,Qk,f0]
 have ex6:=fun F=>Z0 (frz:=F) (H:=H5) o5_x2 o_x3 (by omega)
 try simp only [Qi] at ex6
 try simp only [Qk] at ex6
 simp [VM.look,b5_2,b5_7,Qf b5_2,Qf b5_7,cH5.1,Nat.le_add_right_of_le cH5.1,one_x0,one_x1,one_x2,one_x3,ro0_2,ro1,Qi,Qk,ex6,f0]
 rw [X4 (h:=by kernel_rfl)]
 simp [VM.look,b5_2,b5_7,Qf b5_2,Qf b5_7,cH5.1,Nat.le_add_right_of_le cH5.1,one_x0,one_x1,one_x2,one_x3,ro0_2,ro1,Qi,Qk,f0]
 refine W7 (Zs a0_0 a0_1 u0_2 a0_2 (Rd.isI (Rd.chg r0_2 cH5 (by simp))) (by omega)) ?_
 rintro _ H7 ⟨v_x4,rfl,o_x4,c7,n_x4,d_x4⟩
 have l7:=c7.1
 try simp at l7
 have b7_2:=Qn b5_2 c7 (by simp)
 have b7_7:=Qn b5_7 c7 (by simp)
 have o7_x0:=Dt.chg0 o5_x0 c7
 have o7_x1:=Dt.chg0 o5_x1 c7
 have o7_x2:=Dt.chg0 o5_x2 c7
 have o7_x3:=Dt.chg0 o_x3 c7
 have cH7:Chg H H7 []:=(cH5).trans c7
 have h_x4:=dMesh.lt o_x4
 try simp at n_x4
 have one_x4:=Yi o_x4
 simp [VM.look,b7_2,b7_7,Qf b7_2,Qf b7_7,cH7.1,Nat.le_add_right_of_le cH7.1,one_x0,one_x1,one_x2,one_x3,one_x4,ro0_2,ro1,Qi,Qk,f0]
 have eq8:=fun F=>Rp (frz:=F) (H:=H7) o7_x2 o_x4
 try simp only [Qi] at eq8
 simp [eq8,VM.look,b7_2,b7_7,Qf b7_2,Qf b7_7,cH7.1,Nat.le_add_right_of_le cH7.1,one_x0,one_x1,one_x2,one_x3,one_x4,ro0_2,ro1,Qi,Qk,f0]
 refine W7 (Ze u1 a1 (Rd.isI (Rd.chg r1 cH7 (by simp))) (by omega)) ?_
 rintro _ H9 ⟨v_x5,rfl,o_x5,c9,n_x5,d_x5⟩
 have l9:=c9.1
 try simp at l9
 have b9_2:=Qn b7_2 c9 (by simp)
 have b9_7:=Qn b7_7 c9 (by simp)
 have o9_x0:=Dt.chg0 o7_x0 c9
 have o9_x1:=Dt.chg0 o7_x1 c9
 have o9_x2:=Dt.chg0 o7_x2 c9
 have o9_x3:=Dt.chg0 o7_x3 c9
 have o9_x4:=Dt.chg0 o_x4 c9
 have cH9:Chg H H9 []:=(cH7).trans c9
 have h_x5:=dIntS.lt o_x5
 try simp at n_x5
 have one_x5:=Ye o_x5
 simp [VM.look,b9_2,b9_7,Qf b9_2,Qf b9_7,cH9.1,Nat.le_add_right_of_le cH9.1,one_x0,one_x1,one_x2,one_x3,one_x4,one_x5,ro0_2,ro1,Qi,Qk,f0]
 have eq10:=fun F=>S2 (frz:=F) (H:=H9) o9_x3 o_x5
 try simp only [Qk] at eq10
 simp [eq10,VM.look,b9_2,b9_7,Qf b9_2,Qf b9_7,cH9.1,Nat.le_add_right_of_le cH9.1,one_x0,one_x1,one_x2,one_x3,one_x4,one_x5,ro0_2,ro1,Qi,Qk,f0]
theorem law_FnExactFormatRoute {a0_0:Int} {a0_1:Int} {a0_2:List (Int)} {u0_2:Value} {a1:List (Int)} {u1:Value} (s0_2:IsS (Kn.int .i64) H u0_2 a0_2) (s1:IsS (Kn.int .i64) H u1 a1)
 (w0:(((Lit.int .i64 a0_0).wf=true)∧((Lit.int .i64 a0_1).wf=true))∧(a0_2.length≤maxLen∧∀x1∈a0_2,(Lit.int .i64 x1).wf=true)) (w1:a1.length≤maxLen∧∀x2∈a1,(Lit.int .i64 x2).wf=true) :
 vcall C frz 5 [.agg #[.int .i64 a0_0,.int .i64 a0_1,u0_2],u1] H=some (.bool true,H):=
 (law_FnExactFormatRoute_w s0_2 s1 w0 w1).exact (by simp) rfl
end Go.Proofs.YtgemlndinpcdkaaDoor.V
