/- Texts of a proof, joined. -/
import Derived.Lib.AppendZerosOnto
import Derived.Calls
import Derived.Orders
import Derived.Below
import Derived.Tactics
import Derived.Laws.AppendOwn
import Derived.Laws.MakeOwn
import Derived.Laws.StructEq
import Derived.Laws.BytesArg
import Derived.Deep.AppendSrc
import Derived.Laws.CopyOwn
import Derived.Laws.IdiomCopy
import Derived.Deep.MidRow
import Derived.Laws.Slices
/-! A value machine: the program's code run over rows of cells that are told apart by numbers, without capacities, draws and blocks. -/
set_option linter.all false
namespace Go.VM
open Go

structure Row where
  cells : List Value
  gen : Nat
  elem : TypeId

abbrev Heap := List Row
abbrev Env := Nat → Value

def dead : Value := .chan none
def bot : Value := .map none
def upd (t : Env) (d : Nat) (v : Value) : Env := fun x => if x = d then v else t x
def put (t : Env) : Option Tmp → Value → Env
  | some d, v => upd t d v
  | none, _ => t
def vlit : Value → Value
  | .int k n => .int k n
  | .bool b => .bool b
  | .string s => .string s
  | .nilFunc => .nilFunc
  | .pointer none => .pointer none
  | .slice none 0 0 => .slice none 0 0
  | _ => bot
def ev (t : Env) : Operand → Value
  | .tmp x => t x
  | .const v => vlit v
  | .global g => .iface g (.int .i64 0)
  | .func f => .func (.func f) #[] #[]
def argEnv (args : List Value) : Env := fun x => args.getD x undef

/-- a value of one cell that holds no address -/
def lit1 : Value → Bool
  | .int _ _ | .bool _ | .string _ | .nilFunc | .pointer none | .slice none 0 0 => true
  | _ => false

def look (H : Heap) (a : Addr) : Option Row :=
  match H[a.block]? with
  | some r => if a.spot = some r.gen then some r else none
  | none => none

/-- is it an aggregate, and of how many cells -/
def tsz (P : Program) (t : TypeId) : Option (Bool × Nat) :=
  match P.underlying t with
  | some (.struct _) | some (.array _ _) => (P.info? t).map fun i => (true, i.size)
  | some _ => (P.info? t).map fun i => (false, i.size)
  | none => none
def tzero (P : Program) (t : TypeId) : Option (List Value) :=
  match (P.info? t).bind (·.zero) with
  | some z => if z.cells.toList.all lit1 then some z.cells.toList else none
  | none => none
/-- a field: its place, is it an aggregate, its cells -/
def finfo (P : Program) (s : TypeId) (f : Nat) : Option (Nat × Bool × Nat) :=
  match P.underlying s with
  | some (.struct fs) => match fs[f]? with
    | some fd => match tsz P fd.type with
      | some (ag, n) => if n = 0 then none else some (fd.offset, ag, n)
      | none => none
    | none => none
  | _ => none
/-- a slice's elements: type, cells -/
def eltp (P : Program) (t : TypeId) : Option (TypeId × Nat) :=
  match P.underlying t with
  | some (.slice e) => match P.info? e with
    | some i => if 0 < i.size ∧ i.bytes ≤ 65536 ∧ (i.zero.any fun z => z.cells.size == i.size) then some (e, i.size) else none
    | none => none
  | _ => none

def one : Value → Bool
  | .agg _ | .tuple _ | .map _ => false
  | _ => true
def ones (l : List Value) : Bool := l.all one

def splice (l : List Value) (o : Nat) (cs : List Value) : List Value := l.take o ++ cs ++ l.drop (o + cs.length)

/-- what package variables hold that are tables of numbers -/
def pow10s : List Int := [1, 10, 100, 1000, 10000, 100000, 1000000, 10000000, 100000000, 1000000000, 10000000000, 100000000000, 1000000000000, 10000000000000, 100000000000000, 1000000000000000, 10000000000000000, 100000000000000000, 1000000000000000000, 10000000000000000000]
def spaceN (o : Nat) : Int := if o = 9 ∨ o = 10 ∨ o = 11 ∨ o = 12 ∨ o = 13 ∨ o = 32 then 1 else 0
def gtab (P : Program) (g o : Nat) : Option Value :=
  if P.globalNamed "internal/strconv.uint64pow10" = some g then (pow10s[o]?).map (.int .u64)
  else if P.globalNamed "strings.asciiSpace" = some g then (if o < 256 then some (.int .u8 (spaceN o)) else none) else none
def vload (P : Program) (H : Heap) (t : TypeId) : Value → Option Value
  | .pointer (some a) => match look H a with
    | some r => match tsz P t with
      | some (true, n) => if a.off + n ≤ r.cells.length then some (.agg ((r.cells.drop a.off).take n).toArray) else none
      | some (false, _) => r.cells[a.off]?
      | none => none
    | none => none
  | .iface g (.int _ o) => match tsz P t with
    | some (false, _) => if 0 ≤ o then gtab P g o.toNat else none
    | _ => none
  | _ => none

def vstore (P : Program) (frz : Nat) (H : Heap) (t : TypeId) (x : Value) : Value → Option Heap
  | .pointer (some a) => match look H a with
    | some r => match tsz P t with
      | some (_, n) => if frz ≤ a.block ∧ x.cells.size = n ∧ a.off + n ≤ r.cells.length ∧ ones x.cells.toList = true
          then some (H.set a.block { r with cells := splice r.cells a.off x.cells.toList }) else none
      | none => none
    | none => none
  | _ => none

def isSl (P : Program) (t : TypeId) : Bool := match P.underlying t with | some (.slice _) => true | _ => false
def isStr (P : Program) (t : TypeId) : Bool := match P.underlying t with | some .string => true | _ => false
def newp (H : Heap) : Value := .pointer (some ⟨H.length, 0, some 0⟩)
def vfieldAddr (P : Program) (H : Heap) (s : TypeId) (f : Nat) : Value → Option Value
  | .pointer (some a) => match look H a with
    | some _ => match finfo P s f with
      | some (o, _, _) => some (.pointer (some ⟨a.block, a.off + o, a.spot⟩))
      | none => none
    | none => none
  | _ => none
def part' (ag : Bool) (n o : Nat) (cs : List Value) : Option Value :=
  if ag then some (.agg ((cs.drop o).take n).toArray) else cs[o]?
def vfield (P : Program) (s : TypeId) (f : Nat) : Value → Option Value
  | .agg cs => match finfo P s f with
    | some (o, ag, n) => part' ag n o cs.toList
    | none => none
  | _ => none
/-- an array: how many elements, of how many cells -/
def arrp (P : Program) (t : TypeId) : Option (Nat × Nat) :=
  match P.underlying t with
  | some (.array n e) => (P.info? e).map fun i => (n, i.size)
  | _ => none
def vindexAddr (P : Program) (H : Heap) (t : TypeId) : Value → Value → Option Value
  | .slice (some a) len _, .int _ i => match look H a with
    | some _ => match eltp P t with
      | some (_, n) => if 0 ≤ i ∧ i < len then some (.pointer (some ⟨a.block, a.off + i.toNat * n, a.spot⟩)) else none
      | none => none
    | none => none
  | .pointer (some a), .int _ i => match look H a with
    | some _ => match arrp P t with
      | some (n, k) => if 0 ≤ i ∧ i < n then some (.pointer (some ⟨a.block, a.off + i.toNat * k, a.spot⟩)) else none
      | none => none
    | none => none
  | .iface g (.int _ o), .int _ i => match arrp P t with
    | some (n, k) => if 0 ≤ o ∧ 0 ≤ i ∧ i < n then some (.iface g (.int .i64 (o + i * k))) else none
    | none => none
  | _, _ => none
def vindex (P : Program) (t : TypeId) : Value → Value → Option Value
  | .string s, .int _ i => match P.underlying t with
    | some .string => if 0 ≤ i then (match s[i.toNat]? with | some b => some (.int .u8 b.toNat) | none => none) else none
    | _ => none
  | .agg cs, .int _ i => match P.underlying t with
    | some (.array n e) => match tsz P e with
      | some (ag, k) => if 0 ≤ i ∧ i < n then part' ag k (i.toNat * k) cs.toList else none
      | none => none
    | _ => none
  | _, _ => none
def vbound (d : Nat) : Option Value → Option Int
  | none => some d
  | some (.int _ i) => some i
  | _ => none
def vslice (P : Program) (H : Heap) (t : TypeId) (lo hi : Option Value) : Value → Option Value
  | .slice none 0 0 => match eltp P t, vbound 0 lo, vbound 0 hi with
    | some _, some 0, some 0 => some (.slice none 0 0)
    | _, _, _ => none
  | .slice (some a) len k => match look H a with
    | some r => match eltp P t, vbound 0 lo, vbound len hi with
      | some (e, n), some l, some h => if k = 0 ∧ r.elem = e ∧ 0 ≤ l ∧ l ≤ h ∧ h ≤ len then some (.slice (some ⟨a.block, a.off + l.toNat * n, a.spot⟩) (h.toNat - l.toNat) 0) else none
      | _, _, _ => none
    | none => none
  | .pointer (some a) => match look H a with
    | some _ => match arrp P t with
      | some (n, k) => match vbound 0 lo, vbound n hi with
        | some l, some h => if 0 ≤ l ∧ l ≤ h ∧ h ≤ n then some (.slice (some ⟨a.block, a.off + l.toNat * k, a.spot⟩) (h.toNat - l.toNat) 1) else none
        | _, _ => none
      | none => none
    | none => none
  | .string s => match vbound 0 lo, vbound s.size hi with
    | some l, some h => if isStr P t = true ∧ 0 ≤ l ∧ l ≤ h ∧ h ≤ s.size then some (.string (s.extract l.toNat h.toNat)) else none
    | _, _ => none
  | _ => none

def icmp (op : BinOp) (x y : Int) : Option Bool :=
  match op with
  | .eql => some (decide (x = y)) | .neq => some (!decide (x = y)) | .lss => some (decide (x < y)) | .leq => some (decide (x ≤ y))
  | .gtr => some (decide (y < x)) | .geq => some (decide (y ≤ x)) | _ => none
def iarith (op : BinOp) (k : IntKind) (x y : Int) : Option Int :=
  match op with
  | .add => some (k.wrap (x + y)) | .sub => some (k.wrap (x - y)) | .mul => some (k.wrap (x * y))
  | .quo => if y = 0 then none else some (k.wrap (x.tdiv y))
  | .rem => if y = 0 then none else some (x.tmod y)
  | .and => some (k.wrap (BitVec.ofInt k.bits x &&& BitVec.ofInt k.bits y).toNat)
  | .or => some (k.wrap (BitVec.ofInt k.bits x ||| BitVec.ofInt k.bits y).toNat)
  | .xor => some (k.wrap (BitVec.ofInt k.bits x ^^^ BitVec.ofInt k.bits y).toNat)
  | .andNot => some (k.wrap (BitVec.ofInt k.bits x &&& ~~~ (BitVec.ofInt k.bits y)).toNat)
  | _ => none
def ishift (op : BinOp) (k : IntKind) (x y : Int) : Option Int :=
  if y < 0 then none else
  match op with
  | .shl => some (k.wrap (x * 2 ^ min y.toNat k.bits))
  | .shr => some (x.fdiv (2 ^ min y.toNat k.bits))
  | _ => none
def scalK (P : Program) (t : TypeId) : Option Nat := match P.underlying t with
  | some (.int _) => some 0
  | some .bool => some 1
  | some .string => some 2
  | _ => none
/-- fields of one cell each, one behind the other, that are numbers, flags or texts: their kinds -/
def flatFs (P : Program) : List Field → Nat → Option (List Nat)
  | [], _ => some []
  | f :: fs, o => if f.name ≠ "_" ∧ tsz P f.type = some (false, 1) ∧ f.offset = o then
      match scalK P f.type, flatFs P fs (o + 1) with
      | some k, some l => some (k :: l)
      | _, _ => none
    else none
/-- a struct of such fields -/
def flatN (P : Program) (t : TypeId) : Option (List Nat) := match P.underlying t with
  | some (.struct fs) => if P.eqGuardType P.depth t = false ∧ P.stoodInHeld t = false then flatFs P fs.toList 0 else none
  | _ => none
def ceq : Nat → Value → Value → Option Bool
  | 0, .int k a, .int k' b => if k = k' then some (a == b) else none
  | 1, .bool a, .bool b => some (a == b)
  | 2, .string a, .string b => some (a.toList == b.toList)
  | _, _, _ => none
def cseq : List Nat → List Value → List Value → Option Bool
  | [], [], [] => some true
  | k :: ks, x :: xs, y :: ys => match ceq k x y, cseq ks xs ys with
    | some a, some b => some (a && b)
    | _, _ => none
  | _, _, _ => none
def vbin (P : Program) (op : BinOp) (t : TypeId) : Value → Value → Option Value
  | .int k x, .int k' y =>
    match op with
    | .shl | .shr => (ishift op k x y).map (.int k)
    | .add | .sub | .mul | .quo | .rem | .and | .or | .xor | .andNot => if k = k' then (iarith op k x y).map (.int k) else none
    | _ => if k = k' then (icmp op x y).map .bool else none
  | .bool x, .bool y => match P.underlying t, op with
    | some .bool, .eql => some (.bool (x == y))
    | some .bool, .neq => some (.bool (x != y))
    | _, _ => none
  | .string x, .string y => match op with
    | .eql => some (.bool (x.toList == y.toList))
    | .neq => some (.bool (!(x.toList == y.toList)))
    | .add => if x.size + y.size ≤ 1073741824 then some (.string (x ++ y)) else none
    | .lss => some (.bool (Op.bytesLess x.toList y.toList))
    | _ => none
  | .agg xs, .agg ys => match flatN P t, op with
    | some ks, .eql => (cseq ks xs.toList ys.toList).map .bool
    | some ks, .neq => (cseq ks xs.toList ys.toList).map fun b => .bool (!b)
    | _, _ => none
  | _, _ => none
/-- a text's own nil -/
def isNilC : Operand → Bool
  | .const (.slice none 0 0) => true
  | _ => false
/-- a slice of a row that is there is not nil -/
def vnilq (P : Program) (H : Heap) (op : BinOp) (t : TypeId) : Value → Option Value
  | .slice (some a) _ _ => match look H a, P.underlying t, op with
    | some _, some (.slice _), .eql => some (.bool false)
    | some _, some (.slice _), .neq => some (.bool true)
    | _, _, _ => none
  | .slice none 0 1 => match P.underlying t, op with
    | some (.slice _), .eql => some (.bool true)
    | some (.slice _), .neq => some (.bool false)
    | _, _ => none
  | _ => none
def vun (op : UnOp) : Value → Option Value
  | .bool b => match op with | .not => some (.bool !b) | _ => none
  | .int k n => match op with | .neg => some (.int k (k.wrap (0 - n))) | _ => none
  | _ => none
def vconvert (P : Program) (d : TypeId) : Value → Option Value
  | .int _ n => match P.underlying d with
    | some (.int k) => some (.int k (k.wrap n))
    | _ => none
  | .string x => match P.underlying d with
    | some .string => some (.string x)
    | _ => none
  | _ => none

/-- the cells that an append adds -/
def vsrc (n : Nat) (H : Heap) : Value → Option (Nat × List Value)
  | .slice none 0 0 => some (0, [])
  | .slice (some a) len _ => match look H a with
    | some r => if a.off + len * n ≤ r.cells.length then some (len, (r.cells.drop a.off).take (len * n)) else none
    | none => none
  | _ => none
/-- numbers of bytes -/
def byteNs : List Value → Option (List Int)
  | [] => some []
  | .int .u8 n :: r => (byteNs r).map (n :: ·)
  | _ => none
def isU8 (P : Program) (e : TypeId) : Bool := match P.underlying e with | some (.int .u8) => true | _ => false
/-- string(b) -/
def vbytes (P : Program) (s d : TypeId) (H : Heap) (v : Value) : Option Value :=
  match P.underlying s with
  | some (.slice e) => if isU8 P e = true ∧ isStr P d = true then (match vsrc 1 H v with | some (_, cs) => (byteNs cs).map fun ns => .string (strOfNums ns) | none => none) else none
  | _ => none
def vconv (P : Program) (s d : TypeId) (H : Heap) (v : Value) : Option Value :=
  match v with
  | .slice a n c => vbytes P s d H (.slice a n c)
  | v => vconvert P d v
/-- the cells that stay before an append -/
def vkeep (l : List Value) (o k : Nat) : List Value := if o + k = l.length then l.drop o else (l.drop o).take k
/-- append(nil, make([]T, k)...): the translation hands the number k in the place of a slice; what the new row holds is not told -/
def vappendZ (P : Program) (H : Heap) (t u : TypeId) (s x : Value) : Option (Value × Heap) :=
  match P.underlying u with
  | some (.int _) => match eltp P t with
    | some (e, n) => match s with
      | .slice none 0 0 => match x with
        | .int _ k => if 0 < n ∧ 0 < k ∧ k ≤ 1073741824 then some (.slice (some ⟨H.length, 0, some 0⟩) k.toNat 0, H ++ [⟨[], 0, e⟩]) else none
        | _ => none
      | _ => none
    | none => none
  | _ => none
/-- append(b, s...) of a string's bytes -/
def vappS (P : Program) (frz : Nat) (H : Heap) (t u : TypeId) (s : Value) (b : ByteArray) : Option (Value × Heap) :=
  if isStr P u = true then match eltp P t with
    | some (e, n) => if n = 1 ∧ isU8 P e = true then match s with
      | .slice none 0 0 => if b.size = 0 then some (.slice none 0 0, H) else
          if b.size ≤ 1073741824 then some (.slice (some ⟨H.length, 0, some 0⟩) b.size 0, H ++ [⟨byteCells b, 0, e⟩]) else none
      | .slice (some a) len k => match look H a with
        | some r => if b.size = 0 then some (s, H) else
            if k = 0 ∧ frz ≤ a.block ∧ a.off + len ≤ r.cells.length ∧ r.elem = e ∧ len + b.size ≤ 1073741824 ∧ ones r.cells = true
            then some (.slice (some ⟨a.block, 0, some (r.gen + 1)⟩) (len + b.size) 0, H.set a.block ⟨vkeep r.cells a.off len ++ byteCells b, r.gen + 1, e⟩) else none
        | none => none
      | _ => none
      else none
    | none => none
  else none
def vappendX (P : Program) (frz : Nat) (H : Heap) (t u : TypeId) (s x : Value) : Option (Value × Heap) :=
  match x with
  | .string b => vappS P frz H t u s b
  | x => vappendZ P H t u s x
def vappend (P : Program) (frz : Nat) (H : Heap) (t u : TypeId) (s x : Value) : Option (Value × Heap) :=
  if t = u then
  match eltp P t with
  | some (e, n) => match vsrc n H x with
    | some (m, news) => match s with
      | .slice none 0 0 => if m = 0 then some (.slice none 0 0, H) else
          if m ≤ 1073741824 ∧ ones news = true then some (.slice (some ⟨H.length, 0, some 0⟩) m 0, H ++ [⟨news, 0, e⟩]) else none
      | .slice (some a) len k => match look H a with
        | some r => if m = 0 then some (s, H) else
            if k = 0 ∧ frz ≤ a.block ∧ a.off + len * n ≤ r.cells.length ∧ r.elem = e ∧ len + m ≤ 1073741824 ∧ ones r.cells = true ∧ ones news = true
            then some (.slice (some ⟨a.block, 0, some (r.gen + 1)⟩) (len + m) 0, H.set a.block ⟨vkeep r.cells a.off (len * n) ++ news, r.gen + 1, e⟩) else none
        | none => none
      | _ => none
    | none => none
  | none => none
  else vappendX P frz H t u s x
def vcopy (P : Program) (frz : Nat) (H : Heap) (t u : TypeId) (s x : Value) : Option (Value × Heap) :=
  if t = u then
  match eltp P t with
  | some (_, n) => match vsrc n H x with
    | some (m, news) => match s with
      | .slice none 0 0 => some (.int .i64 0, H)
      | .slice (some a) len _ => match look H a with
        | some r => if frz ≤ a.block ∧ a.off + len * n ≤ r.cells.length ∧ ones news = true
            then some (.int .i64 (Nat.min m len), H.set a.block { r with cells := splice r.cells a.off (news.take (Nat.min m len * n)) }) else none
        | none => none
      | _ => none
    | none => none
  | none => none
  else none
def vclear (P : Program) (frz : Nat) (H : Heap) (t : TypeId) (s : Value) : Option (Value × Heap) :=
  match s with
  | .slice none 0 0 => if isSl P t = true then some (undef, H) else none
  | .slice (some a) n _ => match eltp P t with
    | some (e, sz) => match tzero P e with
      | some z => match look H a with
        | some r => if frz ≤ a.block ∧ a.off + n * sz ≤ r.cells.length ∧ ones z = true then some (undef, H.set a.block { r with cells := splice r.cells a.off (List.replicate n z).flatten }) else none
        | none => none
      | none => none
    | none => none
  | _ => none
def vlen (P : Program) (H : Heap) (t : TypeId) : Value → Option Value
  | .string s => if isStr P t = true then some (.int .i64 s.size) else none
  | .slice none 0 0 => if isSl P t = true then some (.int .i64 0) else none
  | .slice (some a) n _ => match look H a with
    | some _ => if isSl P t = true then some (.int .i64 n) else none
    | none => none
  | _ => none
/-- cap is told of the empty slice alone -/
def vcap (P : Program) (t : TypeId) : Value → Option Value
  | .slice none 0 0 => if isSl P t = true then some (.int .i64 0) else none
  | _ => none
def vmax2 : Value → Value → Option Value
  | .int k x, .int _ y => some (.int k (if x < y then y else x))
  | _, _ => none
def vmin2 : Value → Value → Option Value
  | .int k x, .int _ y => some (.int k (if y < x then y else x))
  | _, _ => none
def vfold (f : Value → Value → Option Value) : Value → List Value → Option Value
  | x, [] => some x
  | x, y :: l => match f x y with | some z => vfold f z l | none => none
def vbuiltin (P : Program) (frz : Nat) (H : Heap) (b : Builtin) (ts : List TypeId) (args : List Value) : Option (Value × Heap) :=
  match b with
  | .len => match ts, args with
    | t :: _, x :: _ => (vlen P H t x).map (·, H)
    | _, _ => none
  | .cap => match ts, args with
    | t :: _, x :: _ => (vcap P t x).map (·, H)
    | _, _ => none
  | .append => match ts, args with
    | [t, u], [s, x] => vappend P frz H t u s x
    | _, _ => none
  | .copy => match ts, args with
    | [t, u], [s, x] => vcopy P frz H t u s x
    | _, _ => none
  | .clear => match ts, args with
    | [t], [s] => vclear P frz H t s
    | _, _ => none
  | .max => match args with
    | x :: l => (vfold vmax2 x l).map (·, H)
    | _ => none
  | .min => match args with
    | x :: l => (vfold vmin2 x l).map (·, H)
    | _ => none
  | _ => none

def vmake (P : Program) (H : Heap) (t : TypeId) : Value → Value → Option (Value × Heap)
  | .int _ l, .int _ c => match eltp P t with
    | some (e, _) => match tzero P e with
      | some z => if 0 ≤ l ∧ l ≤ c ∧ c ≤ 1073741824 then some (.slice (some ⟨H.length, 0, some 0⟩) l.toNat 0, H ++ [⟨(List.replicate l.toNat z).flatten, 0, e⟩]) else none
      | none => none
    | none => none
  | _, _ => none

/-- the parts of a composite, each laid at its place -/
def vfill (place : Nat → Option (Nat × Nat)) (cells : List Value) : List (Nat × Value) → Option (List Value)
  | [] => some cells
  | (i, v) :: rest => match place i with
    | some (o, n) => if v.cells.size = n ∧ o + n ≤ cells.length ∧ ones v.cells.toList = true then vfill place (splice cells o v.cells.toList) rest else none
    | none => none
/-- where the parts of a struct or an array lie -/
def bplaces (P : Program) (t : TypeId) : Option (List (Nat × Nat)) :=
  match P.underlying t with
  | some (.struct fs) => fs.toList.mapM fun f => (P.info? f.type).map fun i => (f.offset, i.size)
  | some (.array n e) => (P.info? e).map fun i => (List.range n).map fun j => (j * i.size, i.size)
  | _ => none
def vbuild (P : Program) (t : TypeId) (parts : List (Nat × Value)) : Option Value :=
  match bplaces P t with
  | some pl => match tzero P t with
    | some z => match vfill (fun i => pl[i]?) z parts with
      | some cs => some (.agg cs.toArray)
      | none => none
    | none => none
  | none => none
def vbuildSlice (P : Program) (H : Heap) (t : TypeId) (len : Nat) (parts : List (Nat × Value)) : Option (Value × Heap) :=
  match eltp P t with
  | some (e, n) => match tzero P e with
    | some z => if len * n ≤ 65536 then
        match vfill (fun i => some (i * n, n)) (List.replicate len z).flatten parts with
        | some cs => some (.slice (some ⟨H.length, 0, some 0⟩) len 0, H ++ [⟨cs, 0, e⟩])
        | none => none
        else none
    | none => none
  | none => none

abbrev Calling := Nat → List Value → Heap → Option (Value × Heap)

def vop (P : Program) (frz : Nat) (call : Calling) (o : Op) (t : Env) (H : Heap) : Option (Value × Heap) :=
  match o with
  | .move x | .assign x => some (ev t x, H)
  | .pick c a b => match ev t c with | .bool true => some (ev t a, H) | .bool false => some (ev t b, H) | _ => none
  | .alloc e => match tzero P e with | some z => some (newp H, H ++ [⟨z, 0, e⟩]) | none => none
  | .box e x => if ones (ev t x).cells.toList = true then some (newp H, H ++ [⟨(ev t x).cells.toList, 0, e⟩]) else none
  | .build ty parts => (vbuild P ty (parts.toList.map fun x => (x.1, ev t x.2))).map (·, H)
  | .buildSlice ty len parts => vbuildSlice P H ty len (parts.toList.map fun x => (x.1, ev t x.2))
  | .load ty a => (vload P H ty (ev t a)).map (·, H)
  | .store ty a x => (vstore P frz H ty (ev t x) (ev t a)).map (undef, ·)
  | .nilCheck x => match ev t x with
    | .pointer (some a) => match look H a with | some _ => some (.pointer (some a), H) | none => none
    | _ => none
  | .binOp op ty x y _ => (match isNilC y with | true => vnilq P H op ty (ev t x) | false => vbin P op ty (ev t x) (ev t y)).map (·, H)
  | .unOp op _ x => (vun op (ev t x)).map (·, H)
  | .convert s d x => if (P.underlying s).isSome = true then (vconv P s d H (ev t x)).map (·, H) else none
  | .makeFunc fn first captured => some (.func fn (first.map (ev t)) (captured.map (ev t)), H)
  | .makeSlice ty l c => vmake P H ty (ev t l) (ev t c)
  | .slice ty x lo hi none => (vslice P H ty (lo.map (ev t)) (hi.map (ev t)) (ev t x)).map (·, H)
  | .fieldAddr s x f => (vfieldAddr P H s f (ev t x)).map (·, H)
  | .field s x f => (vfield P s f (ev t x)).map (·, H)
  | .indexAddr ty x i => (vindexAddr P H ty (ev t x) (ev t i)).map (·, H)
  | .index ty x i => (vindex P ty (ev t x) (ev t i)).map (·, H)
  | .extract x i => match ev t x with | .tuple vs => (vs[i]?).map (·, H) | _ => none
  | .call c => match c.callee with
    | .builtin b => vbuiltin P frz H b c.argTypes.toList (c.args.toList.map (ev t))
    | .value f => match ev t f with
      | .func (.func g) first captured => call g (first.toList ++ c.args.toList.map (ev t) ++ captured.toList) H
      | _ => none
    | .invoke _ _ => none
  | _ => none

def vguard (ops : Array Oper) (o : Oper) (t : Env) : Option Bool :=
  match o.guard with
  | none => some true
  | some (j, want) => match (ops[j]?).bind (·.dst) with
    | none => some false
    | some d => match t d with
      | .bool b => some (b == want)
      | .tuple vs => if vs.size = 0 then some false else none
      | _ => none

def vops (P : Program) (frz : Nat) (call : Calling) (ops : Array Oper) : List Oper → Env → Heap → Option (Env × Heap)
  | [], t, H => some (t, H)
  | o :: rest, t, H => match vguard ops o t with
    | some true => match vop P frz call o.op t H with
      | some (v, H') => vops P frz call ops rest (put t o.dst v) H'
      | none => none
    | some false => vops P frz call ops rest (put t o.dst undef) H
    | none => none

/-- it looks at no row and changes none -/
def pureB : Op → Bool
  | .move _ | .assign _ | .pick .. | .binOp .. | .unOp .. | .fieldAddr .. | .field .. | .indexAddr .. | .index .. | .extract .. | .nilCheck _ | .slice .. | .build .. | .makeFunc .. => true
  | .call c => match c.callee with | .builtin .len | .builtin .max | .builtin .min => true | _ => false
  | _ => false
/-- an address that is a row's as it stands -/
def live1 (H : Heap) : Value → Prop
  | .pointer (some a) => look H a ≠ none
  | .slice (some a) _ _ => look H a ≠ none
  | .func _ _ _ | .agg _ | .tuple _ => False
  | _ => True
def live (H : Heap) : Value → Prop
  | .agg cs => ∀ c ∈ cs.toList, live1 H c
  | v => live1 H v
/-- what has been loaded can be loaded still -/
inductive Wat where
  | ld (ty : TypeId) (a v : Value)
  | row (id : Nat) (r : Row)
def Wat.ok (P : Program) (H : Heap) : Wat → Prop
  | .ld ty a v => vload P H ty a = some v ∧ live H v
  | .row id r => H[id]? = some r
def Wok (P : Program) (H : Heap) (wl : List Wat) : Prop := ∀ x ∈ wl, x.ok P H
def wrow (v : Value) (H : Heap) (wl : List Wat) : List Wat :=
  match v with
  | .slice (some a) _ _ => (match H[a.block]? with | some r => .row a.block r :: wl | none => wl)
  | .pointer (some a) => (match H[a.block]? with | some r => .row a.block r :: wl | none => wl)
  | _ => wl
def wgrow (b : Bool) (o : Op) (t : Env) (v : Value) (H : Heap) (wl : List Wat) : List Wat :=
  match b, o with
  | true, .load ty a => .ld ty (ev t a) v :: wl
  | true, .makeSlice _ _ _ => wrow v H wl
  | true, .alloc _ => wrow v H wl
  | _, _ => wl
/-- what stands behind all that may come late ends the watch -/
def wcut (b : Bool) (wl : List Wat) : List Wat := match b with | true => [] | false => wl
open Classical in
/-- a run that watches the loads which may come late -/
noncomputable def vopsW (P : Program) (frz : Nat) (call : Calling) (ops : Array Oper) (fl : List Nat × List Nat) : Nat → List Wat → List Oper → Env → Heap → Option (Env × Heap)
  | _, _, [], t, H => some (t, H)
  | n, wl, o :: rest, t, H => match vguard ops o t with
    | some true => match vop P frz call o.op t H with
      | some (v, H') => if pureB o.op = true ∨ Wok P H' (wgrow (fl.1.contains n) o.op t v H' (wcut (fl.2.contains n) wl)) then vopsW P frz call ops fl (n + 1) (wgrow (fl.1.contains n) o.op t v H' (wcut (fl.2.contains n) wl)) rest (put t o.dst v) H' else none
      | none => none
    | some false => vopsW P frz call ops fl (n + 1) wl rest (put t o.dst undef) H
    | none => none

inductive Out where
  | normal | ret | exit (id : Nat)

/-- what the machine is told of a function: 0: it changes no row that was there, and what it made is packed; 1: it changes none; 2: it may change rows -/
structure Ctx where
  P : Program
  mode : Nat → Nat
  ext : Nat → Option (Nat → List Value → Heap → Option (Value × Heap))

def scrub (n : Nat) : Value → Value
  | .slice (some a) len c => if a.block < n then .slice (some a) len c else dead
  | .pointer (some a) => if a.block < n then .pointer (some a) else dead
  | .func _ _ _ => dead
  | .agg _ => bot
  | .tuple _ => bot
  | v => v
def packRow (n : Nat) (r : Row) : Row := ⟨r.cells.map (scrub n), 0, r.elem⟩
/-- a cell of a result: rows that the call made are laid behind the n old ones -/
def packCell (n : Nat) (H : Heap) : Value → List Nat → Option (Value × List Nat)
  | .slice (some a) len c, ids => if a.block < n then some (.slice (some a) len c, ids) else
      match look H a with
      | some _ => if ids.contains a.block then none else some (.slice (some ⟨n + ids.length, a.off, some 0⟩) len c, ids ++ [a.block])
      | none => none
  | .pointer (some a), ids => if a.block < n then some (.pointer (some a), ids) else
      match look H a with
      | some _ => if ids.contains a.block then none else some (.pointer (some ⟨n + ids.length, a.off, some 0⟩), ids ++ [a.block])
      | none => none
  | .func _ _ _, _ => none
  | .agg _, _ => none
  | .tuple vs, ids => if vs.size = 0 then some (.tuple vs, ids) else none
  | v, ids => some (v, ids)
def packList (f : Value → List Nat → Option (Value × List Nat)) : List Value → List Nat → Option (List Value × List Nat)
  | [], ids => some ([], ids)
  | v :: l, ids => match f v ids with
    | some (v', ids') => match packList f l ids' with
      | some (l', ids'') => some (v' :: l', ids'')
      | none => none
    | none => none
def packVal (n : Nat) (H : Heap) : Value → List Nat → Option (Value × List Nat)
  | .agg cs, ids => match packList (packCell n H) cs.toList ids with
    | some (l, ids') => some (.agg l.toArray, ids')
    | none => none
  | v, ids => packCell n H v ids
def pack (n : Nat) (H : Heap) : Value → Option (Value × List Nat)
  | .tuple vs => if vs.size = 0 then some (.tuple vs, []) else match packList (packVal n H) vs.toList [] with
    | some (l, ids') => some (.tuple l.toArray, ids')
    | none => none
  | v => packVal n H v []
def packed (n : Nat) (H : Heap) (ids : List Nat) : List Row := ids.map fun i => packRow n ((H[i]?).getD ⟨[], 0, 0⟩)

def vresult (P : Program) (t : Env) (H : Heap) : ResultVar → Option Value
  | .tmp x => some (t x)
  | .cell a ty => vload P H ty (t a)
def vresults (P : Program) (t : Env) (H : Heap) : List ResultVar → Option (List Value)
  | [] => some []
  | r :: l => match vresult P t H r with
    | some v => match vresults P t H l with
      | some vs => some (v :: vs)
      | none => none
    | none => none
def joined : List Value → Value
  | [v] => v
  | l => .tuple l.toArray

/-- what is asked of a text: each slot that is written lies in the frame -/
def dstOk (n : Nat) : Code → Bool
  | .region _ ops _ => ops.toList.all fun o => match o.dst with | some d => decide (d < n) | none => true
  | .seq a b => dstOk n a && dstOk n b
  | .cond _ a b => dstOk n a && dstOk n b
  | .block _ c => dstOk n c
  | .loop c => dstOk n c
  | _ => true

def fnOk (fn : Func) (c : Code) : Bool := dstOk fn.ntmps c && !(fn.name == "runtime.NumGoroutine")
/-- it may change rows -/
def writerB (mode : Nat → Nat) : Op → Bool
  | .store .. => true
  | .call c => match c.callee with
    | .builtin .append | .builtin .copy | .builtin .clear => true
    | .builtin _ => false
    | .value (.func g) => mode g == 2
    | _ => true
  | _ => false
def bmask (prev : List Nat) (o : Oper) : Nat := o.after.toList.foldl (fun s e => if Region.binds .any e = true then s ||| 2 ^ e.on ||| prev.getD e.on 0 else s) 0
def bmasks : List Oper → List Nat → List Nat
  | [], acc => acc
  | o :: l, acc => bmasks l (acc ++ [bmask acc o])
def firstWriter (mode : Nat → Nat) : List Oper → Nat → Nat
  | [], n => n
  | o :: l, n => if writerB mode o.op = true then n else firstWriter mode l (n + 1)
/-- the order that a region draws does not matter -/
def drawOk (C : Ctx) (ops : Array Oper) : Bool :=
  (List.range ops.size).all fun i => match ops[i]? with
    | none => true
    | some o => (o.after.toList.all fun e => !Region.binds .any e || decide (e.on < i)) &&
      (List.range i).all fun j => match ops[j]? with
        | none => true
        | some q => (((bmasks ops.toList []).getD i 0).testBit j || q.apart ops o) && (decide (i < firstWriter C.mode ops.toList 0) || pureB q.op || ((bmasks ops.toList []).getD i 0).testBit j)

/-- a slice of no elements that an operation makes: it can be told without a row -/
def empB (P : Program) : Op → Bool
  | .buildSlice ty 0 ps => decide (ps.size = 0) && (match eltp P ty with | some (e, _) => (tzero P e).isSome | none => false)
  | _ => false
def empOp (P : Program) (o : Op) : Op := if empB P o = true then .move (.const (.slice none 0 0)) else o
def emps (P : Program) (ops : Array Oper) : List Oper := ops.toList.map fun o => { o with op := empOp P o.op }
/-- slot x is written once ahead of i, by such an operation -/
def freshE (P : Program) (ops : Array Oper) (i x : Nat) : Bool :=
  (List.range i).any fun j => match ops[j]? with
    | some q => decide (q.dst = some x) && empB P q.op && q.guard.isNone && (List.range i).all fun k => decide (k = j) || (match ops[k]? with | some q' => decide (q'.dst ≠ some x) | none => true)
    | none => false
/-- an append to such a slice changes no row -/
def appE (P : Program) (ops : Array Oper) (i : Nat) : Op → Bool
  | .call c => match c.callee, c.args.toList with
    | .builtin .append, .tmp x :: _ => freshE P ops i x
    | _, _ => false
  | _ => false
def firstWriterE (C : Ctx) (ops : Array Oper) : List Oper → Nat → Nat
  | [], n => n
  | o :: l, n => if writerB C.mode o.op = true ∧ appE C.P ops n o.op = false then n else firstWriterE C ops l (n + 1)
def drawOkE (C : Ctx) (ops : Array Oper) : Bool :=
  (List.range ops.size).all fun i => match ops[i]? with
    | none => true
    | some o => (o.after.toList.all fun e => !Region.binds .any e || decide (e.on < i)) &&
      (List.range i).all fun j => match ops[j]? with
        | none => true
        | some q => (((bmasks ops.toList []).getD i 0).testBit j || q.apart ops o) && (decide (i < firstWriterE C ops ops.toList 0) || pureB q.op || ((bmasks ops.toList []).getD i 0).testBit j)
/-- a load that may come late -/
def floatB (C : Ctx) (ops : Array Oper) (j : Nat) : Bool := match ops[j]? with
  | some q => (match q.op, q.guard with
    | .load _ _, none | .makeSlice _ _ _, none | .alloc _, none => (List.range ops.size).any fun i => decide (j < i) && decide (firstWriterE C ops ops.toList 0 ≤ i) && !((bmasks ops.toList []).getD i 0).testBit j
    | _, _ => false)
  | none => false
def floats (C : Ctx) (ops : Array Oper) : List Nat := (List.range ops.size).filter (floatB C ops)
/-- an operation that stands behind every load before it that may come late -/
def cutB (C : Ctx) (ops : Array Oper) (n : Nat) : Bool := match ops[n]? with
  | some o => !pureB o.op && !(floats C ops).contains n && ((floats C ops).any fun j => decide (j < n)) && (floats C ops).all fun j => decide (n ≤ j) || ((bmasks ops.toList []).getD n 0).testBit j
  | none => false
def floatsC (C : Ctx) (ops : Array Oper) : List Nat × List Nat := (floats C ops, (List.range ops.size).filter (cutB C ops))
def drawOkF (C : Ctx) (ops : Array Oper) : Bool :=
  (List.range ops.size).all fun i => match ops[i]? with
    | none => true
    | some o => (o.after.toList.all fun e => !Region.binds .any e || decide (e.on < i)) &&
      (List.range i).all fun j => match ops[j]? with
        | none => true
        | some q => (((bmasks ops.toList []).getD i 0).testBit j || q.apart ops o) && (decide (i < firstWriterE C ops ops.toList 0) || pureB q.op || (floats C ops).contains j || ((bmasks ops.toList []).getD i 0).testBit j)
/-- an operation under other numbers -/
def renE (pl : List Nat) (l : Array Edge) : Array Edge := l.map fun e => { e with on := pl.idxOf e.on }
def renO (pl : List Nat) (o : Oper) : Oper := { o with after := renE pl o.after, guard := o.guard.map fun g => (pl.idxOf g.1, g.2) }
/-- the operations in another order -/
def permA (pl : List Nat) (ops : Array Oper) : Array Oper := (pl.map fun i => renO pl (ops.getD i default)).toArray
def loadB : Op → Bool
  | .load _ _ => true
  | .alloc _ => true
  | _ => false
/-- the operations that stand behind one that acts -/
def stuck (ms : List Nat) : List Oper → Nat → Nat → Nat
  | [], _, s => s
  | o :: l, i, s => stuck ms l (i + 1) (if ((pureB o.op || loadB o.op) && o.guard.isNone && (ms.getD i 0 &&& s) == 0) = true then s else s ||| 2 ^ i)
/-- what only looks comes ahead -/
def aheadP (ops : Array Oper) : List Nat :=
  (List.range ops.size).filter (fun i => !(stuck (bmasks ops.toList []) ops.toList 0 0).testBit i) ++ (List.range ops.size).filter (fun i => !!(stuck (bmasks ops.toList []) ops.toList 0 0).testBit i)
def aheads (C : Ctx) (ops : Array Oper) : Array Oper := if drawOkF C ops = true then ops else permA (aheadP ops) ops
/-- in which form a region is run -/
def plan (C : Ctx) (ops : Array Oper) (draw : Bool) : Option (List Oper) :=
  if draw = true then (if drawOk C ops = true then some ops.toList else if drawOkE C ops = true then some (emps C.P ops) else none) else some ops.toList

/-- a text's own nil that is compared later: a region that does nothing else -/
def nilF (op : Op) (pos : String) : Bool := match op with
  | .assign (.const (.slice none 0 0)) => pos == "l10_cycle.go:35" || pos == "l10_cycle.go:45" || pos == "l10_cycle.go:55" || pos == "l10_cycle.go:57" || pos == "l10_cycle.go:59"
  | _ => false
def nilReg (ops : Array Oper) : Bool := match ops.toList with
  | [⟨some _, op, _, pos, _, none⟩] => nilF op pos
  | _ => false
def nilDst (ops : Array Oper) : Option Tmp := match ops.toList with
  | [o] => o.dst
  | _ => none
@[simp] theorem nilF_eq (op : Op) (pos : String) : nilF op pos = match op with
  | .assign (.const (.slice none 0 0)) => pos == "l10_cycle.go:35" || pos == "l10_cycle.go:45" || pos == "l10_cycle.go:55" || pos == "l10_cycle.go:57" || pos == "l10_cycle.go:59"
  | _ => false := by unfold nilF; exact id rfl
@[simp] theorem nilReg_eq (ops : Array Oper) : nilReg ops = match ops.toList with
  | [⟨some _, op, _, pos, _, none⟩] => nilF op pos
  | _ => false := by unfold nilReg; exact id rfl
@[simp] theorem nilDst_eq (ops : Array Oper) : nilDst ops = match ops.toList with
  | [o] => o.dst
  | _ => none := rfl
/-- a region's run -/
noncomputable def vregion (C : Ctx) (frz : Nat) (call : Calling) (ops : Array Oper) (draw : Bool) (t : Env) (H : Heap) : Option (Env × Heap) :=
  match !draw && nilReg ops with
  | true => some (put t (nilDst ops) (.slice none 0 1), H)
  | false => match plan C ops draw with
  | some l => vops C.P frz call ops l t H
  | none => if drawOkF C (aheads C ops) = true then vopsW C.P frz call (aheads C ops) (floatsC C (aheads C ops)) 0 [] (emps C.P (aheads C ops)) t H else none

def vfinish (C : Ctx) (g : Nat) (fn : Func) (H : Heap) (t' : Env) (H' : Heap) : Option (Value × Heap) :=
  match vresults C.P t' H' fn.results.toList with
  | some vs => if C.mode g = 0 then
      match pack H.length H' (joined vs) with
      | some (v, ids) => some (v, H ++ packed H.length H' ids)
      | none => none
      else some (joined vs, H')
  | none => none
def vcallWith (C : Ctx) (exec : Nat → Code → Env → Heap → Option (Out × Env × Heap)) (frz : Nat) : Calling := fun g args H =>
  match C.P.funcs[g]? with
  | some fn => match fn.body with
    | some body => if fnOk fn body = true then
        match exec (if C.mode g = 2 then frz else H.length) body (argEnv args) H with
        | some (.normal, t', H') => vfinish C g fn H t' H'
        | some (.ret, t', H') => vfinish C g fn H t' H'
        | _ => none
      else none
    | none => none
  | none => none
noncomputable def vexecF (C : Ctx) : Nat → Nat → Code → Env → Heap → Option (Out × Env × Heap)
  | 0, _, _, _, _ => none
  | k + 1, frz, c, t, H => match c with
    | .skip => some (.normal, t, H)
    | .label _ => some (.normal, t, H)
    | .ret => some (.ret, t, H)
    | .exit id => some (.exit id, t, H)
    | .seq a b => match vexecF C k frz a t H with
      | some (.normal, t', H') => vexecF C k frz b t' H'
      | r => r
    | .cond x a b => match ev t x with
      | .bool true => vexecF C k frz a t H
      | .bool false => vexecF C k frz b t H
      | _ => none
    | .block id body => match vexecF C k frz body t H with
      | some (.exit id', t', H') => if id' = id then some (.normal, t', H') else some (.exit id', t', H')
      | r => r
    | .loop body => match vexecF C k frz body t H with
      | some (.normal, t', H') => vexecF C k frz (.loop body) t' H'
      | r => r
    | .region _ ops draw => match vregion C frz (vcallWith C (vexecF C k) frz) ops draw t H with
        | some (t', H') => some (.normal, t', H')
        | none => none
    | _ => none
end Go.VM
/-! How the value machine's rows and values stand to the model's world. -/
set_option linter.all false
namespace Go.VM
open Go Go.RowKit

structure Loc where
  b : Nat
  o : Nat
  n : Nat
abbrev Inj := Nat → Option Loc
def Loc.at (l : Loc) (i : Nat) : Addr := ⟨l.b, l.o + i, none⟩

inductive VRel (P : Program) (H : Heap) (ι : Inj) : Value → Value → Prop
  | int (k n) : VRel P H ι (.int k n) (.int k n)
  | bool (b) : VRel P H ι (.bool b) (.bool b)
  | str (s) : VRel P H ι (.string s) (.string s)
  | nilFunc : VRel P H ι .nilFunc .nilFunc
  | nilPtr : VRel P H ι (.pointer none) (.pointer none)
  | nilSl : VRel P H ι (.slice none 0 0) (.slice none 0 0)
  | noSl {b} : VRel P H ι (.slice none 0 0) (.slice (some b) 0 0)
  | trueNil : VRel P H ι (.slice none 0 1) (.slice none 0 0)
  | ptr {a r l} (hr : H[a.block]? = some r) (hg : a.spot = some r.gen) (hl : ι a.block = some l) :
      VRel P H ι (.pointer (some a)) (.pointer (some (l.at a.off)))
  | stalePtr {a r g c} (hr : H[a.block]? = some r) (hg : a.spot = some g) (h : g < r.gen) (h1 : c.oneCell' = true) : VRel P H ι (.pointer (some a)) c
  | sl {a r l len k cap} (hr : H[a.block]? = some r) (hg : a.spot = some r.gen) (hl : ι a.block = some l) (hlen : len ≤ cap)
      (hcap : k = 0 → a.off + cap * P.cellsOf r.elem ≤ l.n) : VRel P H ι (.slice (some a) len k) (.slice (some (l.at a.off)) len cap)
  | slZero {a r l k b} (hr : H[a.block]? = some r) (hg : a.spot = some r.gen) (hl : ι a.block = some l) : VRel P H ι (.slice (some a) 0 k) (.slice (some b) 0 0)
  | staleSl {a r g len k c} (hr : H[a.block]? = some r) (hg : a.spot = some g) (h : g < r.gen) (h1 : c.oneCell' = true) : VRel P H ι (.slice (some a) len k) c
  | func {fn} {f f' c c' : Array Value} (hf : f.size = f'.size) (hc : c.size = c'.size)
      (h1 : ∀ (i : Nat) (x y : Value), f[i]? = some x → f'[i]? = some y → VRel P H ι x y) (h2 : ∀ (i : Nat) (x y : Value), c[i]? = some x → c'[i]? = some y → VRel P H ι x y) :
      VRel P H ι (.func fn f c) (.func fn f' c')
  | agg {c c' : Array Value} (hc : c.size = c'.size) (h : ∀ (i : Nat) (x y : Value), c[i]? = some x → c'[i]? = some y → VRel P H ι x y) : VRel P H ι (.agg c) (.agg c')
  | tuple {c c' : Array Value} (hc : c.size = c'.size) (h : ∀ (i : Nat) (x y : Value), c[i]? = some x → c'[i]? = some y → VRel P H ι x y) : VRel P H ι (.tuple c) (.tuple c')
  | dead {c} (h1 : c.oneCell' = true) : VRel P H ι (.chan none) c
  | bot {c} : VRel P H ι (.map none) c
  | glob {k : IntKind} {g o : Nat} : VRel P H ι (.iface g (.int k (o : Int))) (.pointer (some ⟨g, o, none⟩))

def Ext (H : Heap) (ι : Inj) (H' : Heap) (ι' : Inj) : Prop :=
  ∀ id r, H[id]? = some r → ∃ r', H'[id]? = some r' ∧ r'.elem = r.elem ∧ r.gen ≤ r'.gen ∧ (r'.gen = r.gen → ι' id = ι id)

variable {P : Program} {H H' H'' : Heap} {ι ι' ι'' : Inj} {v c : Value}

theorem Ext.refl (H : Heap) (ι : Inj) : Ext H ι H ι := fun _ r h => ⟨r, h, rfl, Nat.le_refl _, fun _ => rfl⟩
theorem Ext.trans (h : Ext H ι H' ι') (k : Ext H' ι' H'' ι'') : Ext H ι H'' ι'' := fun id r hr => by
  obtain ⟨r1, h1, e1, g1, l1⟩ := h id r hr
  obtain ⟨r2, h2, e2, g2, l2⟩ := k id r1 h1
  exact ⟨r2, h2, e2.trans e1, Nat.le_trans g1 g2, fun hg => (l2 (by omega)).trans (l1 (by omega))⟩

theorem VRel.mono (e : Ext H ι H' ι') (h : VRel P H ι v c) : VRel P H' ι' v c := by
  induction h with
  | int => exact .int _ _
  | bool => exact .bool _
  | str => exact .str _
  | nilFunc => exact .nilFunc
  | nilPtr => exact .nilPtr
  | nilSl => exact .nilSl
  | noSl => exact .noSl
  | trueNil => exact .trueNil
  | @ptr a r l hr hg hl =>
    obtain ⟨r', h1, h2, h3, h4⟩ := e _ _ hr
    by_cases hge : r'.gen = r.gen
    · exact .ptr h1 (by rw [hg, hge]) ((h4 hge).trans hl)
    · exact .stalePtr h1 hg (by omega) rfl
  | stalePtr hr hg h h1 =>
    obtain ⟨r', k1, k2, k3, k4⟩ := e _ _ hr
    exact .stalePtr k1 hg (by omega) h1
  | @sl a r l len k cap hr hg hl hlen hcap =>
    obtain ⟨r', h1, h2, h3, h4⟩ := e _ _ hr
    by_cases hge : r'.gen = r.gen
    · exact .sl h1 (by rw [hg, hge]) ((h4 hge).trans hl) hlen (fun hk => by rw [h2]; exact hcap hk)
    · exact .staleSl h1 hg (by omega) rfl
  | @slZero a r l k b hr hg hl =>
    obtain ⟨r', h1, h2, h3, h4⟩ := e _ _ hr
    by_cases hge : r'.gen = r.gen
    · exact .slZero h1 (by rw [hg, hge]) ((h4 hge).trans hl)
    · exact .staleSl h1 hg (by omega) rfl
  | staleSl hr hg h h1 =>
    obtain ⟨r', k1, k2, k3, k4⟩ := e _ _ hr
    exact .staleSl k1 hg (by omega) h1
  | func hf hc _ _ i1 i2 => exact .func hf hc i1 i2
  | agg hc _ ih => exact .agg hc ih
  | tuple hc _ ih => exact .tuple hc ih
  | dead h1 => exact .dead h1
  | bot => exact .bot
  | glob => exact .glob

/-- a literal stands for itself -/
theorem VRel.lit (h : lit1 v = true) : VRel P H ι v v := by
  cases v with
  | int => exact .int _ _
  | bool => exact .bool _
  | string => exact .str _
  | nilFunc => exact .nilFunc
  | pointer a => cases a with | none => exact .nilPtr | some => simp [lit1] at h
  | slice a n m => 
    cases a with
    | some => simp [lit1] at h
    | none => cases n <;> cases m <;> simp [lit1] at h; exact .nilSl
  | _ => simp [lit1] at h
theorem VRel.one (h : VRel P H ι v c) (h1 : VM.one v = true) : c.oneCell' = true := by
  cases h <;> first | rfl | assumption | (simp [VM.one] at h1)
theorem VRel.cells (h : VRel P H ι v c) (hb : v ≠ .map none) : v.cells.size = c.cells.size ∧ ∀ (i : Nat) (x y : Value), v.cells[i]? = some x → c.cells[i]? = some y → VRel P H ι x y := by
  have one : ∀ {v c : Value}, VRel P H ι v c → v.cells = #[v] → c.cells = #[c] → v.cells.size = c.cells.size ∧ ∀ (i : Nat) (x y : Value), v.cells[i]? = some x → c.cells[i]? = some y → VRel P H ι x y := by
    intro v c h hv hc
    rw [hv, hc]
    refine ⟨rfl, fun i x y hx hy => ?_⟩
    cases i with
    | zero => simp at hx hy; subst hx; subst hy; exact h
    | succ i => simp at hx
  have oneC : ∀ c : Value, c.oneCell' = true → c.cells = #[c] := fun c h => by cases c <;> first | rfl | simp [Value.oneCell'] at h
  cases h with
  | agg hc h => exact ⟨hc, h⟩
  | stalePtr hr hg h h1 => exact one (.stalePtr hr hg h h1) rfl (oneC _ h1)
  | staleSl hr hg h h1 => exact one (.staleSl hr hg h h1) rfl (oneC _ h1)
  | dead h1 => exact one (.dead h1) rfl (oneC _ h1)
  | int => exact one (.int _ _) rfl rfl
  | bool => exact one (.bool _) rfl rfl
  | str => exact one (.str _) rfl rfl
  | nilFunc => exact one .nilFunc rfl rfl
  | nilPtr => exact one .nilPtr rfl rfl
  | nilSl => exact one .nilSl rfl rfl
  | noSl => exact one .noSl rfl rfl
  | trueNil => exact one .trueNil rfl rfl
  | ptr hr hg hl => exact one (.ptr hr hg hl) rfl rfl
  | sl hr hg hl hlen hcap => exact one (.sl hr hg hl hlen hcap) rfl rfl
  | slZero hr hg hl => exact one (.slZero hr hg hl) rfl rfl
  | func hf hc h1 h2 => exact one (.func hf hc h1 h2) rfl rfl
  | tuple hc h => exact one (.tuple hc h) rfl rfl
  | bot => exact absurd rfl hb
  | glob => exact one .glob rfl rfl

/-- a row's cells stand in the world -/
def RowAt (P : Program) (H : Heap) (ι : Inj) (w : World) (cells : List Value) (l : Loc) : Prop :=
  cells.length ≤ l.n ∧ ∀ i v, cells[i]? = some v → ∃ c, w.cell? (l.at i) = some c ∧ VRel P H ι v c

/-- the listed package variables stand in the world -/
def GL (P : Program) (B : Nat) (w0 : World) : Prop := ∀ g o v, gtab P g o = some v → g < B ∧ w0.cell? ⟨g, o, none⟩ = some v
structure Rel (P : Program) (B : Nat) (w0 : World) (frz : Nat) (ι : Inj) (H : Heap) (w : World) : Prop where
  below : Below B w0 w
  hB : B ≤ w.heap.size
  row : ∀ id l, ι id = some l → l.b < w.heap.size ∧ ∃ r, H[id]? = some r ∧ RowAt P H ι w r.cells l
  own : ∀ id l r, ι id = some l → H[id]? = some r → frz ≤ id → B ≤ l.b ∧ (∃ cs : Array Value, w.heap[l.b]? = some (.cells cs r.elem (0, 0)) ∧ l.o + l.n = cs.size) ∧
    ∀ id' l', ι id' = some l' → l'.b = l.b → id' = id
  gl : GL P B w0

/-- the frame's slots -/
def ERel (P : Program) (H : Heap) (ι : Inj) (t : Env) (tmps : Array Value) : Prop := ∀ x, VRel P H ι (t x) (tmps.getD x undef)

variable {B frz : Nat} {w0 w w' : World} {t : Env} {tmps : Array Value}

theorem ERel.mono (e : Ext H ι H' ι') (h : ERel P H ι t tmps) : ERel P H' ι' t tmps := fun x => (h x).mono e
theorem RowAt.mono {cells : List Value} {l : Loc} (e : Ext H ι H' ι') (h : RowAt P H ι w cells l) : RowAt P H' ι' w cells l :=
  ⟨h.1, fun i v hv => let ⟨c, h1, h2⟩ := h.2 i v hv; ⟨c, h1, h2.mono e⟩⟩
theorem VRel.undef : VRel P H ι undef undef := .tuple rfl fun i x y h => by simp at h

theorem ERel.put (h : ERel P H ι t tmps) (d : Option Tmp) (hd : ∀ x, d = some x → x < tmps.size) (hv : VRel P H ι v c) (defers : List Deferred) :
    ERel P H ι (put t d v) ((Act.mk tmps defers).put d c).tmps := by
  cases d with
  | none => exact h
  | some d =>
    have hlt := hd d rfl
    intro x
    simp only [VM.put, upd, Act.put]
    by_cases hx : x = d
    · subst hx; simp [hlt, Array.getD, hv]
    · have := h x
      simp only [hx, if_false]
      have e : (tmps.setIfInBounds d c).getD x Go.undef = tmps.getD x Go.undef := by
        simp only [Array.getD_eq_getD_getElem?]
        rw [Array.getElem?_setIfInBounds_ne (by omega)]
      rw [e]; exact this

theorem ev_ok (h : ERel P H ι t tmps) (x : Operand) (defers : List Deferred) : VRel P H ι (ev t x) ((Act.mk tmps defers).eval x) := by
  cases x with
  | tmp x => exact h x
  | const v =>
    simp only [ev, Act.eval]
    by_cases hl : lit1 v = true
    · have : vlit v = v := by
        cases v with
        | pointer a => cases a with | none => rfl | some => simp [lit1] at hl
        | slice a n m => cases a with | some => simp [lit1] at hl | none => cases n <;> cases m <;> simp [lit1] at hl; rfl
        | _ => first | rfl | (simp [lit1] at hl)
      rw [this]; exact .lit hl
    · have : vlit v = .map none := by
        cases v with
        | pointer a => cases a with | none => simp [lit1] at hl | some => rfl
        | slice a n m => cases a with | some => rfl | none => cases n <;> cases m <;> first | rfl | (simp [lit1] at hl)
        | _ => first | rfl | (simp [lit1] at hl)
      rw [this]; exact .bot
  | global g => exact .glob (o := 0)
  | func f => exact .func rfl rfl (fun i x y h => by simp at h) (fun i x y h => by simp at h)
end Go.VM
/-! What an allocation, a write and a move to a new block do to the relation. -/
set_option linter.all false
namespace Go.VM
open Go Go.RowKit
variable {P : Program} {H H' : Heap} {ι ι' : Inj} {v c : Value} {B frz : Nat} {w0 w w' : World} {t : Env} {tmps : Array Value}

theorem heap_alloc_new (w : World) (o : Obj) : (w.alloc o).heap[w.heap.size]? = some o := by
  show (w.heap.push o)[w.heap.size]? = _
  simp

def Inj.at (ι : Inj) (id : Nat) (l : Loc) : Inj := fun x => if x = id then some l else ι x

theorem Rel.lt (R : Rel P B w0 frz ι H w) {id : Nat} {l : Loc} (h : ι id = some l) : id < H.length := by
  obtain ⟨_, r, hr, _⟩ := R.row id l h
  exact (List.getElem?_eq_some_iff.1 hr).1
theorem Rel.drew (R : Rel P B w0 frz ι H w) : Rel P B w0 frz ι H w.drew := ⟨R.below.drew, R.hB, R.row, R.own, R.gl⟩

theorem RowAt.world {cells : List Value} {l : Loc} (h : RowAt P H ι w cells l) (hw : ∀ a : Addr, a.block = l.b → w'.cell? a = w.cell? a) : RowAt P H ι w' cells l :=
  ⟨h.1, fun i v hv => let ⟨c, h1, h2⟩ := h.2 i v hv; ⟨c, by rw [hw _ rfl]; exact h1, h2⟩⟩

theorem getElem?_push_lt {α : Type} {l : List α} {x r : α} {i : Nat} (h : l[i]? = some r) : (l ++ [x])[i]? = some r := by
  rw [List.getElem?_append_left (List.getElem?_eq_some_iff.1 h).1]; exact h

theorem Ext.push (r : Row) (l : Loc) (_hno : ι H.length = none) : Ext H ι (H ++ [r]) (ι.at H.length l) := fun id r' hr =>
  ⟨r', getElem?_push_lt hr, rfl, Nat.le_refl _, fun _ => by
    have : id ≠ H.length := by have := (List.getElem?_eq_some_iff.1 hr).1; omega
    simp [Inj.at, this]⟩

theorem Rel.fresh_none (R : Rel P B w0 frz ι H w) : ι H.length = none := by
  cases h : ι H.length with
  | none => rfl
  | some l => exact absurd (R.lt h) (Nat.lt_irrefl _)

/-- a new row -/
theorem Rel.alloc (R : Rel P B w0 frz ι H w) (hf : frz ≤ H.length) (cs : List Value) (cs' : Array Value) (e : TypeId) (hlen : cs.length ≤ cs'.size)
    (hrel : ∀ (i : Nat) (v : Value), cs[i]? = some v → ∃ c, cs'[i]? = some c ∧ VRel P H ι v c) :
    Rel P B w0 frz (ι.at H.length ⟨w.heap.size, 0, cs'.size⟩) (H ++ [⟨cs, 0, e⟩]) (w.alloc (.cells cs' e)) ∧
    Ext H ι (H ++ [⟨cs, 0, e⟩]) (ι.at H.length ⟨w.heap.size, 0, cs'.size⟩) := by
  have hno := R.fresh_none
  have E := Ext.push (H := H) (ι := ι) ⟨cs, 0, e⟩ ⟨w.heap.size, 0, cs'.size⟩ hno
  have hB := R.hB
  refine ⟨⟨R.below.alloc R.hB _, by simp; omega, ?_, ?_, R.gl⟩, E⟩
  · intro id l hl
    by_cases hid : id = H.length
    · subst hid
      simp [Inj.at] at hl
      subst hl
      refine ⟨by simp, ⟨cs, 0, e⟩, by simp, hlen, fun i v hv => ?_⟩
      obtain ⟨c, hc, hv'⟩ := hrel i v hv
      exact ⟨c, by simp [Loc.at, hc], hv'.mono E⟩
    · simp [Inj.at, hid] at hl
      obtain ⟨h1, r, hr, hra⟩ := R.row id l hl
      refine ⟨by simp; omega, r, getElem?_push_lt hr, ?_⟩
      exact (hra.mono E).world fun a ha => World.cell?_alloc_lt _ _ _ (by omega)
  · intro id l r hl hr hfr
    by_cases hid : id = H.length
    · subst hid
      simp [Inj.at] at hl
      subst hl
      simp at hr
      subst hr
      refine ⟨hB, ⟨cs', heap_alloc_new _ _, by simp⟩, fun id' l' hl' hb => ?_⟩
      by_cases hid' : id' = H.length
      · exact hid'
      · simp [Inj.at, hid'] at hl'
        have := (R.row id' l' hl').1
        simp at hb; omega
    · simp [Inj.at, hid] at hl
      have hlt := R.lt hl
      rw [List.getElem?_append_left hlt] at hr
      obtain ⟨h1, ⟨cs1, h2, h3⟩, h4⟩ := R.own id l r hl hr hfr
      have hbl := (R.row id l hl).1
      refine ⟨h1, ⟨cs1, ?_, h3⟩, fun id' l' hl' hb => ?_⟩
      · rw [Below.heap_alloc _ _ _ hbl]; exact h2
      · by_cases hid' : id' = H.length
        · subst hid'; simp [Inj.at] at hl'; subst hl'; simp at hb; omega
        · simp [Inj.at, hid'] at hl'; exact h4 id' l' hl' hb

theorem getElem?_set' {α : Type} (l : List α) (i j : Nat) (x : α) (h : i < l.length) : (l.set i x)[j]? = if j = i then some x else l[j]? := by
  rw [List.getElem?_set]
  by_cases hj : i = j
  · subst hj; simp [h]
  · simp [hj, Ne.symm hj]

theorem Ext.set {id : Nat} {r r' : Row} {l' : Loc} (hr : H[id]? = some r) (he : r'.elem = r.elem) (hg : r.gen ≤ r'.gen) (hl : r'.gen = r.gen → ι id = some l') :
    Ext H ι (H.set id r') (ι.at id l') := fun id' s hs => by
  have hlt : id < H.length := (List.getElem?_eq_some_iff.1 hr).1
  by_cases h : id' = id
  · subst h
    rw [hr] at hs; cases hs
    refine ⟨r', by rw [getElem?_set' _ _ _ _ hlt]; simp, he, hg, fun hge => ?_⟩
    simp [Inj.at, hl hge]
  · exact ⟨s, by rw [getElem?_set' _ _ _ _ hlt]; simp [h, hs], rfl, Nat.le_refl _, fun _ => by simp [Inj.at, h]⟩

/-- a row of the frame's own is written in place -/
theorem Rel.write (R : Rel P B w0 frz ι H w) {id : Nat} {r r' : Row} {l l' : Loc} {cur cur' : Array Value} (hl : ι id = some l) (hr : H[id]? = some r) (hf : frz ≤ id)
    (he : r'.elem = r.elem) (hg : r.gen ≤ r'.gen) (hll : r'.gen = r.gen → l' = l) (hb : l'.b = l.b)
    (hcur : w.heap[l.b]? = some (.cells cur r.elem (0, 0))) (hsz : l'.o + l'.n = cur'.size)
    (hlen : r'.cells.length ≤ l'.n) (hrel : ∀ (i : Nat) (v : Value), r'.cells[i]? = some v → ∃ c, cur'[l'.o + i]? = some c ∧ VRel P H ι v c) :
    Rel P B w0 frz (ι.at id l') (H.set id r') (w.setRow l.b cur') ∧ Ext H ι (H.set id r') (ι.at id l') := by
  have E : Ext H ι (H.set id r') (ι.at id l') := Ext.set hr he hg fun h => by rw [hl, hll h]
  have hlt := R.lt hl
  obtain ⟨o1, ⟨cs1, o2, o3⟩, o4⟩ := R.own id l r hl hr hf
  refine ⟨⟨below_setRow R.below o1 _, by simpa using R.hB, ?_, ?_, R.gl⟩, E⟩
  · intro id' s hs
    by_cases hid : id' = id
    · subst hid
      simp [Inj.at] at hs
      subst hs
      refine ⟨by simpa [hb] using (R.row _ l hl).1, r', by rw [getElem?_set' _ _ _ _ hlt]; simp, hlen, fun i v hv => ?_⟩
      obtain ⟨c, hc, hv'⟩ := hrel i v hv
      exact ⟨c, by rw [Loc.at, hb, cell_setRow_same _ _ _ _ _ _ _ hcur]; exact hc, hv'.mono E⟩
    · simp [Inj.at, hid] at hs
      obtain ⟨h1, r1, hr1, hra⟩ := R.row id' s hs
      refine ⟨by simpa using h1, r1, by rw [getElem?_set' _ _ _ _ hlt]; simp [hid, hr1], ?_⟩
      exact (hra.mono E).world fun a ha => cell_setRow_other _ _ _ _ (fun e => hid (o4 id' s hs (by rw [← ha]; exact e)))
  · intro id' s r1 hs hr1 hfr
    rw [getElem?_set' _ _ _ _ hlt] at hr1
    by_cases hid : id' = id
    · subst hid
      simp [Inj.at] at hs
      subst hs
      simp at hr1
      subst hr1
      refine ⟨by rw [hb]; exact o1, ⟨cur', by rw [hb, he]; exact setRow_heap _ _ _ _ _ _ hcur, hsz⟩, fun id2 l2 h2 hb2 => ?_⟩
      by_cases hid2 : id2 = id'
      · exact hid2
      · simp [Inj.at, hid2] at h2; exact o4 id2 l2 h2 (by rw [hb2, hb])
    · simp [Inj.at, hid] at hs
      simp [hid] at hr1
      obtain ⟨q1, ⟨cs2, q2, q3⟩, q4⟩ := R.own id' s r1 hs hr1 hfr
      have hne : s.b ≠ l.b := fun e => hid (o4 id' s hs e)
      refine ⟨q1, ⟨cs2, by rw [setRow_other _ _ _ _ hne]; exact q2, q3⟩, fun id2 l2 h2 hb2 => ?_⟩
      by_cases hid2 : id2 = id
      · subst hid2
        simp [Inj.at] at h2
        subst h2
        exact absurd (hb2.symm.trans hb) hne
      · simp [Inj.at, hid2] at h2; exact q4 id2 l2 h2 hb2

/-- a row of the frame's own moves to a new block -/
theorem Rel.move (R : Rel P B w0 frz ι H w) {id : Nat} {r r' : Row} {l : Loc} {cur' : Array Value} (hl : ι id = some l) (hr : H[id]? = some r) (_hf : frz ≤ id)
    (he : r'.elem = r.elem) (hg : r.gen < r'.gen)
    (hlen : r'.cells.length ≤ cur'.size) (hrel : ∀ (i : Nat) (v : Value), r'.cells[i]? = some v → ∃ c, cur'[i]? = some c ∧ VRel P H ι v c) :
    Rel P B w0 frz (ι.at id ⟨w.heap.size, 0, cur'.size⟩) (H.set id r') (w.alloc (.cells cur' r'.elem)) ∧ Ext H ι (H.set id r') (ι.at id ⟨w.heap.size, 0, cur'.size⟩) := by
  have E : Ext H ι (H.set id r') (ι.at id ⟨w.heap.size, 0, cur'.size⟩) := Ext.set hr he (by omega) fun h => by omega
  have hlt := R.lt hl
  have hB := R.hB
  refine ⟨⟨R.below.alloc R.hB _, by simp; omega, ?_, ?_, R.gl⟩, E⟩
  · intro id' s hs
    by_cases hid : id' = id
    · subst hid
      simp [Inj.at] at hs
      subst hs
      refine ⟨by simp, r', by rw [getElem?_set' _ _ _ _ hlt]; simp, hlen, fun i v hv => ?_⟩
      obtain ⟨c, hc, hv'⟩ := hrel i v hv
      exact ⟨c, by simp [Loc.at, hc], hv'.mono E⟩
    · simp [Inj.at, hid] at hs
      obtain ⟨h1, r1, hr1, hra⟩ := R.row id' s hs
      refine ⟨by simp; omega, r1, by rw [getElem?_set' _ _ _ _ hlt]; simp [hid, hr1], ?_⟩
      exact (hra.mono E).world fun a ha => World.cell?_alloc_lt _ _ _ (by omega)
  · intro id' s r1 hs hr1 hfr
    rw [getElem?_set' _ _ _ _ hlt] at hr1
    by_cases hid : id' = id
    · subst hid
      simp [Inj.at] at hs
      subst hs
      simp at hr1
      subst hr1
      refine ⟨hB, ⟨cur', heap_alloc_new _ _, by simp⟩, fun id2 l2 h2 hb2 => ?_⟩
      by_cases hid2 : id2 = id'
      · exact hid2
      · simp [Inj.at, hid2] at h2
        have := (R.row id2 l2 h2).1
        simp at hb2; omega
    · simp [Inj.at, hid] at hs
      simp [hid] at hr1
      obtain ⟨q1, ⟨cs2, q2, q3⟩, q4⟩ := R.own id' s r1 hs hr1 hfr
      have hsl := (R.row id' s hs).1
      refine ⟨q1, ⟨cs2, by rw [Below.heap_alloc _ _ _ hsl]; exact q2, q3⟩, fun id2 l2 h2 hb2 => ?_⟩
      by_cases hid2 : id2 = id
      · subst hid2
        simp [Inj.at] at h2
        subst h2
        simp at hb2; omega
      · simp [Inj.at, hid2] at h2; exact q4 id2 l2 h2 hb2

/-- the rows stand in any world that leaves the old blocks alone -/
theorem Rel.of_below (R : Rel P B w0 frz ι H w) (hb : Below w.heap.size w w') : Rel P B w0 frz ι H w' := by
  have hB := R.hB
  refine ⟨R.below.trans (hb.mono hB), by have := hb.size; omega, fun id l hl => ?_, fun id l r hl hr hf => ?_, R.gl⟩
  · obtain ⟨h1, r, hr, hra⟩ := R.row id l hl
    exact ⟨by have := hb.size; omega, r, hr, hra.world fun a ha => hb.cell (by omega)⟩
  · obtain ⟨h1, ⟨cs, h2, h3⟩, h4⟩ := R.own id l r hl hr hf
    exact ⟨h1, ⟨cs, by rw [hb.block _ (R.row id l hl).1]; exact h2, h3⟩, h4⟩
/-- everything that is there is frozen: what a call that changes nothing starts from -/
theorem Rel.freeze (R : Rel P B w0 frz ι H w) : Rel P w.heap.size w H.length ι H w :=
  ⟨Below.refl _ _, Nat.le_refl _, R.row, fun id l r hl hr hf => absurd (R.lt hl) (by omega), fun g o v h => ⟨by have := (R.gl g o v h).1; have := R.hB; omega, by rw [R.below.cell (R.gl g o v h).1]; exact (R.gl g o v h).2⟩⟩
end Go.VM
/-! The operations that read, write and make rows: what the value machine says is what the model does. -/
set_option linter.all false
namespace Go.VM
open Go Go.RowKit
variable {P : Program} {H H' : Heap} {ι ι' : Inj} {v c x y d : Value} {B frz : Nat} {w0 w w' : World} {t : TypeId}

theorem look_some {a : Addr} {r : Row} (h : look H a = some r) : H[a.block]? = some r ∧ a.spot = some r.gen := by
  unfold look at h
  split at h
  · rename_i r' hr
    split at h
    · rename_i hg; cases h; exact ⟨hr, hg⟩
    · cases h
  · cases h
theorem VRel.ptr_inv {a : Addr} {r : Row} (h : VRel P H ι (.pointer (some a)) c) (hl : look H a = some r) : ∃ l, ι a.block = some l ∧ c = .pointer (some (l.at a.off)) := by
  obtain ⟨h1, h2⟩ := look_some hl
  cases h with
  | ptr hr hg hl => exact ⟨_, hl, rfl⟩
  | stalePtr hr hg hlt h1' =>
    rw [hr] at h1; cases h1; rw [hg] at h2; cases h2; omega
theorem VRel.sl_inv {a : Addr} {r : Row} {len k : Nat} (h : VRel P H ι (.slice (some a) len k) c) (hl : look H a = some r) :
    (∃ l cap, ι a.block = some l ∧ len ≤ cap ∧ (k = 0 → a.off + cap * P.cellsOf r.elem ≤ l.n) ∧ c = .slice (some (l.at a.off)) len cap) ∨ (len = 0 ∧ (∃ l, ι a.block = some l) ∧ ∃ b, c = .slice (some b) 0 0) := by
  obtain ⟨h1, h2⟩ := look_some hl
  cases h with
  | sl hr hg hl hlen hcap => rw [hr] at h1; cases h1; exact .inl ⟨_, _, hl, hlen, hcap, rfl⟩
  | slZero hr hg hl => exact .inr ⟨rfl, ⟨_, hl⟩, _, rfl⟩
  | staleSl hr hg hlt h1' => rw [hr] at h1; cases h1; rw [hg] at h2; cases h2; omega

theorem Loc.at_add (l : Loc) (i j : Nat) : (l.at i).add j = l.at (i + j) := by
  simp only [Loc.at, Addr.add_mid, Nat.add_assoc]

theorem tsz_true {n : Nat} (h : tsz P t = some (true, n)) : (∃ d, P.underlying t = some d ∧ d.isRow = true) ∧ (P.info? t).map (·.size) = some n := by
  unfold tsz at h
  split at h
  · rename_i fs hu
    refine ⟨⟨_, hu, rfl⟩, ?_⟩
    cases hi : P.info? t <;> simp [hi] at h ⊢; exact h
  · rename_i k e hu
    refine ⟨⟨_, hu, rfl⟩, ?_⟩
    cases hi : P.info? t <;> simp [hi] at h ⊢; exact h
  · cases hi : P.info? t <;> simp [hi] at h
  · cases h
theorem tsz_false {n : Nat} (h : tsz P t = some (false, n)) : (∃ d, P.underlying t = some d ∧ d.isRow = false) ∧ (P.info? t).map (·.size) = some n := by
  unfold tsz at h
  split at h
  · cases hi : P.info? t <;> simp [hi] at h
  · cases hi : P.info? t <;> simp [hi] at h
  · rename_i d h1 h2 hu
    refine ⟨⟨d, hu, ?_⟩, ?_⟩
    · cases d <;> first | rfl | (exact absurd rfl (h1 _)) | (exact absurd rfl (h2 _ _)) | (exact absurd hu (h1 _)) | (exact absurd hu (h2 _ _))
    · cases hi : P.info? t <;> simp [hi] at h ⊢; exact h
  · cases h
theorem tsz_size {b : Bool} {n : Nat} (h : tsz P t = some (b, n)) : (P.info? t).map (·.size) = some n := by
  cases b
  · exact (tsz_false h).2
  · exact (tsz_true h).2
theorem run_isAgg_false {d : TypeDesc} (h : P.underlying t = some d) (hd : d.isRow = false) (w : World) : (isAgg t).run P w = .ok false w := by
  unfold isAgg
  rw [Sem.run_bind, run_underlying h w]
  cases d <;> simp_all

/-- the model's cells behind the machine's -/
theorem RowAt.read {cells : List Value} {l : Loc} (h : RowAt P H ι w cells l) (o n : Nat) (hn : o + n ≤ cells.length) :
    ∃ cs : List Value, cs.length = n ∧ (∀ j v, cs[j]? = some v → w.cell? (l.at (o + j)) = some v) ∧
      ∀ (i : Nat) (v c : Value), ((cells.drop o).take n)[i]? = some v → cs[i]? = some c → VRel P H ι v c := by
  induction n with
  | zero => exact ⟨[], rfl, by simp, by simp⟩
  | succ n ih =>
    obtain ⟨cs, h1, h2, h3⟩ := ih (by omega)
    have hlt : o + n < cells.length := by omega
    obtain ⟨c, hc, hv⟩ := h.2 (o + n) cells[o + n] (List.getElem?_eq_getElem hlt)
    refine ⟨cs ++ [c], by simp [h1], fun j v hj => ?_, fun i v c' hi hc' => ?_⟩
    · by_cases hjn : j < n
      · rw [List.getElem?_append_left (by omega)] at hj; exact h2 j v hj
      · have : j = n := by
          have := (List.getElem?_eq_some_iff.1 hj).1; simp [h1] at this; omega
        subst this
        rw [List.getElem?_append_right (by omega)] at hj; simp [h1] at hj; subst hj; exact hc
    · by_cases hin : i < n
      · rw [List.getElem?_append_left (by omega)] at hc'
        refine h3 i v c' ?_ hc'
        rw [List.getElem?_take] at hi ⊢
        rw [if_pos hin]; rw [if_pos (by omega)] at hi; exact hi
      · have : i = n := by
          have := (List.getElem?_eq_some_iff.1 hc').1; simp [h1] at this; omega
        subst this
        rw [List.getElem?_append_right (by omega)] at hc'; simp [h1] at hc'; subst hc'
        rw [List.getElem?_take, if_pos (by omega), List.getElem?_drop, List.getElem?_eq_getElem hlt] at hi
        cases hi; exact hv
theorem VRel.agg_of {l : List Value} {cs : List Value} (hl : l.length = cs.length) (h : ∀ (i : Nat) (v c : Value), l[i]? = some v → cs[i]? = some c → VRel P H ι v c) :
    VRel P H ι (.agg l.toArray) (.agg cs.toArray) := .agg (by simpa using hl) fun i x y hx hy => h i x y (by simpa using hx) (by simpa using hy)

theorem gtab_rel {g o : Nat} {v : Value} (h : gtab P g o = some v) : VRel P H ι v v := by
  unfold gtab at h
  split at h
  · rw [Option.map_eq_some_iff] at h
    obtain ⟨a, -, rfl⟩ := h
    exact .int _ _
  · split at h
    · split at h
      · cases h; exact .int _ _
      · cases h
    · cases h
theorem load_ok (R : Rel P B w0 frz ι H w) (hv : VRel P H ι v c) (h : vload P H t v = some x) :
    ∃ c', (Instr.loadAt t c).run P w = .ok c' w ∧ VRel P H ι x c' := by
  unfold vload at h
  split at h
  · rename_i a
    split at h
    · rename_i r hr
      obtain ⟨l, hl, rfl⟩ := hv.ptr_inv hr
      obtain ⟨_, r', hr', hra⟩ := R.row _ _ hl
      obtain ⟨hr1, _⟩ := look_some hr
      rw [hr'] at hr1; cases hr1
      split at h
      · rename_i n hz
        split at h
        · rename_i hn
          cases h
          obtain ⟨cs, h1, h2, h3⟩ := hra.read a.off n hn
          obtain ⟨⟨d, hu, hd⟩, hs⟩ := tsz_true hz
          refine ⟨.agg cs.toArray, run_loadAt_mid w l.b (l.o + a.off) t cs d (fun j v hj => by have := h2 j v hj; simpa [Loc.at, Nat.add_assoc] using this) hu hd (by rw [hs, h1]), ?_⟩
          exact .agg_of (by simp [h1]; omega) h3
        · cases h
      · rename_i n hz
        obtain ⟨⟨d, hu, hd⟩, hs⟩ := tsz_false hz
        obtain ⟨c', hc', hv'⟩ := hra.2 a.off x h
        refine ⟨c', ?_, hv'⟩
        simp only [Instr.loadAt, Instr.sureAddr, Sem.run_bind, Sem.run_pure, Result.andThen_ok, loadVar, run_isAgg_false hu hd w, Bool.false_eq_true, if_false, run_load, hc']
      · cases h
    · cases h
  · rename_i k g o
    split at h
    · rename_i n hz
      split at h
      · rename_i ho
        obtain ⟨⟨d, hu, hd⟩, hs⟩ := tsz_false hz
        cases hv with
        | glob =>
          rename_i o'
          rw [Int.toNat_natCast] at h
          obtain ⟨g1, g2⟩ := R.gl _ _ _ h
          have hc' : w.cell? ⟨k, o', none⟩ = some x := by rw [R.below.cell g1]; exact g2
          refine ⟨x, ?_, gtab_rel h⟩
          simp only [Instr.loadAt, Instr.sureAddr, Sem.run_bind, Sem.run_pure, Result.andThen_ok, loadVar, run_isAgg_false hu hd w, Bool.false_eq_true, if_false, run_load, hc']
      · cases h
    · cases h
  · cases h

theorem getElem?_splice (l cs : List Value) (o i : Nat) (h : o + cs.length ≤ l.length) :
    (splice l o cs)[i]? = if i < o then l[i]? else if i < o + cs.length then cs[i - o]? else l[i]? := by
  unfold splice
  have ht : (l.take o).length = o := by simp; omega
  by_cases h1 : i < o
  · rw [if_pos h1, List.append_assoc, List.getElem?_append_left (by omega), List.getElem?_take, if_pos h1]
  · rw [if_neg h1, List.append_assoc, List.getElem?_append_right (by omega), ht]
    by_cases h2 : i < o + cs.length
    · rw [if_pos h2, List.getElem?_append_left (by omega)]
    · rw [if_neg h2, List.getElem?_append_right (by omega), List.getElem?_drop]
      congr 1; omega
theorem length_splice (l cs : List Value) (o : Nat) (h : o + cs.length ≤ l.length) : (splice l o cs).length = l.length := by
  unfold splice; simp; omega
theorem ones_mem {l : List Value} (h : ones l = true) : ∀ v ∈ l, one v = true := by simpa [ones] using h
theorem ones_rel {l cs : List Value} (ho : ones l = true) (hl : l.length = cs.length) (h : ∀ (i : Nat) (v c : Value), l[i]? = some v → cs[i]? = some c → VRel P H ι v c) :
    ∀ c ∈ cs, c.oneCell' = true := fun c hc => by
  obtain ⟨i, hi⟩ := List.getElem?_of_mem hc
  have hlt := (List.getElem?_eq_some_iff.1 hi).1
  have : l[i]? = some l[i] := List.getElem?_eq_getElem (by omega)
  exact (h i _ c this hi).one (ones_mem ho _ (List.getElem_mem _))

/-- writing the cells cs (as list vs in the machine) at offset o of a row of the frame's own -/
theorem Rel.splice (R : Rel P B w0 frz ι H w) {id : Nat} {r : Row} {l : Loc} (hl : ι id = some l) (hr : H[id]? = some r) (hf : frz ≤ id)
    (vs cs : List Value) (o : Nat) (hlen : vs.length = cs.length) (ho : o + vs.length ≤ r.cells.length) (h1 : ones vs = true)
    (hrel : ∀ (i : Nat) (v c : Value), vs[i]? = some v → cs[i]? = some c → VRel P H ι v c) :
    ∃ w' ι', (storeCells (l.at o) cs).run P w = .ok () w' ∧ Ext H ι (H.set id { r with cells := splice r.cells o vs }) ι' ∧
      Rel P B w0 frz ι' (H.set id { r with cells := splice r.cells o vs }) w' := by
  obtain ⟨q1, ⟨cur, q2, q3⟩, q4⟩ := R.own id l r hl hr hf
  obtain ⟨_, r', hr', hra⟩ := R.row id l hl
  rw [hr] at hr'; cases hr'
  have hcur := hra.1
  have hst := run_storeCells_at P l.b (l.o + o) r.elem cs 0 cur w q2 (by omega) (ones_rel h1 hlen hrel)
  simp only [Nat.add_zero] at hst
  have hsp : l.o + o + cs.length ≤ cur.toList.length := by simp; omega
  obtain ⟨RR, EE⟩ := R.write (r' := { r with cells := VM.splice r.cells o vs }) (l' := l) (cur := cur) (cur' := (VM.splice cur.toList (l.o + o) cs).toArray) hl hr hf rfl (Nat.le_refl _) (fun _ => rfl) rfl q2
    (by simp [length_splice _ _ _ hsp, q3]) (by simp only [length_splice _ _ _ ho]; exact hra.1) (fun i v hi => by
      rw [List.getElem?_toArray, getElem?_splice _ _ _ _ hsp]
      rw [getElem?_splice _ _ _ _ ho] at hi
      by_cases h2 : i < o
      · rw [if_pos h2] at hi; rw [if_pos (by omega)]
        obtain ⟨c, hc, hv⟩ := hra.2 i v hi
        refine ⟨c, ?_, hv⟩
        simpa [World.cell?, Loc.at, q2] using hc
      · rw [if_neg h2] at hi; rw [if_neg (by omega)]
        by_cases h3 : i < o + vs.length
        · rw [if_pos h3] at hi; rw [if_pos (by omega)]
          have hlt : i - o < cs.length := by omega
          refine ⟨cs[i - o], ?_, hrel (i - o) v _ hi (List.getElem?_eq_getElem hlt)⟩
          rw [show l.o + i - (l.o + o) = i - o by omega]; exact List.getElem?_eq_getElem hlt
        · rw [if_neg h3] at hi; rw [if_neg (by omega)]
          obtain ⟨c, hc, hv⟩ := hra.2 i v hi
          refine ⟨c, ?_, hv⟩
          simpa [World.cell?, Loc.at, q2] using hc)
  exact ⟨_, _, hst, EE, RR⟩

theorem store_ok (R : Rel P B w0 frz ι H w) (hv : VRel P H ι v c) (hx : VRel P H ι x d) (h : vstore P frz H t x v = some H') :
    ∃ w' ι', (Instr.storeAt t c d).run P w = .ok () w' ∧ Ext H ι H' ι' ∧ Rel P B w0 frz ι' H' w' := by
  unfold vstore at h
  split at h
  · rename_i a
    split at h
    · rename_i r hr
      obtain ⟨l, hl, rfl⟩ := hv.ptr_inv hr
      obtain ⟨hr1, _⟩ := look_some hr
      split at h
      · rename_i ag n hz
        split at h
        · rename_i hn
          obtain ⟨hf, hsz, hle, h1⟩ := hn
          cases h
          have hb : x ≠ .map none := fun e => by subst e; simp [Value.cells, ones, one] at h1
          obtain ⟨e1, e2⟩ := hx.cells hb
          obtain ⟨w', ι', hst, E, RR⟩ := R.splice hl hr1 hf x.cells.toList d.cells.toList a.off (by simpa using e1) (by simpa [hsz] using hle) h1
            (fun i v c hi hc => e2 i v c (by simpa using hi) (by simpa using hc))
          refine ⟨w', ι', ?_, E, RR⟩
          have hs := tsz_size hz
          cases hq : P.info? t with
          | none => simp [hq] at hs
          | some i =>
            simp [hq] at hs
            have : d.cells.size = i.size := by omega
            simp [Instr.storeAt, Instr.sureAddr, storeVar, sizeOf, typeInfo, hq, this, hst]
        · cases h
      · cases h
    · cases h
  · cases h
end Go.VM
/-! append, copy, make and literals of slices. -/
set_option linter.all false
namespace Go.VM
open Go Go.RowKit
variable {P : Program} {H H' : Heap} {ι ι' : Inj} {v c x y d s : Value} {B frz : Nat} {w0 w w' : World} {t : TypeId}

theorem eltp_spec {e n : Nat} (h : eltp P t = some (e, n)) : P.underlying t = some (.slice e) ∧ ∃ i z, P.info? e = some i ∧ i.size = n ∧ 0 < n ∧ i.bytes ≤ 65536 ∧ i.zero = some z ∧ z.cells.size = n := by
  unfold eltp at h
  split at h
  · rename_i e' hu
    split at h
    · rename_i i hi
      split at h
      · rename_i hc
        cases h
        refine ⟨hu, i, ?_⟩
        cases hz : i.zero with
        | none => simp [hz] at hc
        | some z => simp [hz] at hc; exact ⟨z, hi, rfl, hc.1, hc.2.1, rfl, hc.2.2⟩
      · cases h
    · cases h
  · cases h
theorem cellsOf_of {e : TypeId} {i : TypeInfo} (h : P.info? e = some i) : P.cellsOf e = i.size := by simp [Program.cellsOf, h]

theorem src_ok (R : Rel P B w0 frz ι H w) {n m : Nat} {news : List Value} (hx : VRel P H ι x d) (h : vsrc n H x = some (m, news)) :
    ∃ cs : List Value, cs.length = m * n ∧ news.length = m * n ∧ (∀ (i : Nat) (v c : Value), news[i]? = some v → cs[i]? = some c → VRel P H ι v c) ∧
      ((d = .slice none 0 0 ∧ m = 0) ∨ ∃ a cap, d = .slice (some a) m cap ∧ ∀ j v, cs[j]? = some v → w.cell? (a.add j) = some v) := by
  unfold vsrc at h
  split at h
  · cases h
    cases hx with
    | nilSl => exact ⟨[], by simp, by simp, by simp, .inl ⟨rfl, rfl⟩⟩
    | noSl => exact ⟨[], by simp, by simp, by simp, .inr ⟨_, 0, rfl, by simp⟩⟩
  · rename_i a len k
    split at h
    · rename_i r hr
      split at h
      · rename_i hn
        cases h
        rcases hx.sl_inv hr with ⟨l, cap, hl, hle, hcap, rfl⟩ | ⟨rfl, _, b, rfl⟩
        · obtain ⟨_, r', hr', hra⟩ := R.row _ _ hl
          obtain ⟨hr1, _⟩ := look_some hr
          rw [hr'] at hr1; cases hr1
          obtain ⟨cs, h1, h2, h3⟩ := hra.read a.off (m * n) hn
          exact ⟨cs, h1, by simp; omega, h3, .inr ⟨_, cap, rfl, fun j v hj => by rw [Loc.at_add]; exact h2 j v hj⟩⟩
        · exact ⟨[], by simp, by simp, by simp, .inr ⟨b, 0, rfl, by simp⟩⟩
      · cases h
    · cases h
  · cases h

theorem vkeep_eq {l : List Value} {o k : Nat} (h : o + k ≤ l.length) : vkeep l o k = (l.drop o).take k := by
  unfold vkeep; split
  · rw [List.take_of_length_le (by simp; omega)]
  · rfl
theorem run_firstCells_zero (P : Program) (w : World) (n : Nat) (h : (d = .slice none 0 0) ∨ ∃ a cap, d = .slice (some a) 0 cap) : (Builtin.firstCells n 0 d).run P w = .ok #[] w := by
  rcases h with rfl | ⟨a, cap, rfl⟩
  · rfl
  · simp [Builtin.firstCells, loadCells, loadCellsFrom]
theorem run_append_zero {e n : Nat} (he : eltp P t = some (e, n)) (ty : TypeId) (w : World) (base : Option Addr) (sLen sCap : Nat) (hc : sLen ≤ sCap) (hd : (d = .slice none 0 0) ∨ ∃ a cap, d = .slice (some a) 0 cap) :
    (Builtin.append_ #[t, t] ty #[.slice base sLen sCap, d]).run P w = .ok (.slice base sLen sCap) w := by
  obtain ⟨hu, i, z, hi, hs, hp, hb, hz, hzs⟩ := eltp_spec he
  have hl : (Builtin.lenOf d).run P w = .ok 0 w := by rcases hd with rfl | ⟨a, cap, rfl⟩ <;> rfl
  have hf := run_firstCells_zero P w i.size hd
  cases base with
  | none => simp [Builtin.append_, run_underlying hu, sizeOf, typeInfo, hi, hl, hc, hf]
  | some a => simp [Builtin.append_, run_underlying hu, sizeOf, typeInfo, hi, hl, hc, hf, storeCells]

theorem run_append_fit {e n : Nat} (he : eltp P t = some (e, n)) (ty : TypeId) (w : World) (a0 : Addr) (sLen sCap : Nat) {m cap : Nat} {a : Addr} {cs : List Value} (hlen : cs.length = m * n)
    (hcs : ∀ j v, cs[j]? = some v → w.cell? (a.add j) = some v) (hroom : sLen + m ≤ sCap)
    (hst : (storeCells (a0.add (sLen * n)) cs).run P w = .ok () w') :
    (Builtin.append_ #[t, t] ty #[.slice (some a0) sLen sCap, .slice (some a) m cap]).run P w = .ok (.slice (some a0) (sLen + m) sCap) w' := by
  obtain ⟨hu, i, z, hi, hs, hp, hb, hz, hzs⟩ := eltp_spec he
  subst hs
  have hf := run_firstCells_some (P := P) w i.size m a m cap cs hlen hcs
  simp [Builtin.append_, run_underlying hu, sizeOf, typeInfo, hi, Builtin.lenOf, hroom, hf, hst]

theorem length_drop_take (l : List Value) (o n : Nat) (h : o + n ≤ l.length) : ((l.drop o).take n).length = n := by simp; omega

theorem appendZ_ok (R : Rel P B w0 frz ι H w) (hf0 : frz ≤ H.length) {u ty : TypeId} (hs : VRel P H ι s c) (hx : VRel P H ι x d) (h : vappendZ P H t u s x = some (v, H')) :
    ∃ c' w' ι', (Builtin.append_ #[t, u] ty #[c, d]).run P w = .ok c' w' ∧ VRel P H' ι' v c' ∧ Ext H ι H' ι' ∧ Rel P B w0 frz ι' H' w' := by
  unfold vappendZ at h
  split at h
  · rename_i kn hun
    split at h
    · rename_i e n he
      obtain ⟨hu, i, z, hi, hsz, hp, hb, hz, hzs⟩ := eltp_spec he
      split at h
      · split at h
        · rename_i kq k
          split at h
          · rename_i hc
            cases h
            cases hx
            subst hsz
            obtain ⟨k', rfl⟩ := Int.eq_ofNat_of_zero_le (by omega : 0 ≤ k)
            have hm : k' * i.bytes ≤ 1073741824 * 65536 := Nat.mul_le_mul (by omega) hb
            have hg := grownCap_ge w k' 0 e
            obtain ⟨RR, EE⟩ := R.drew.alloc hf0 [] (Builtin.zeroCells z.cells k' ++ Builtin.zeroCells z.cells (grownCap w k' 0 e - k')) e (by simp) (fun j v hj => by simp at hj)
            have hv : VRel P (H ++ [⟨[], 0, e⟩]) (ι.at H.length ⟨w.heap.size, 0, (Builtin.zeroCells z.cells k' ++ Builtin.zeroCells z.cells (grownCap w k' 0 e - k')).size⟩) (.slice (some ⟨H.length, 0, some 0⟩) k' 0) (.slice (some ⟨w.heap.size, 0, none⟩) k' (grownCap w k' 0 e)) := by
              refine .sl (r := ⟨[], 0, e⟩) (l := ⟨w.heap.size, 0, _⟩) (by simp) rfl (by simp [Inj.at]; rfl) hg (fun _ => ?_)
              simp only [Array.size_append, size_zeroCells, hzs, cellsOf_of hi, Nat.zero_add]
              rw [← Nat.add_mul]; apply Nat.mul_le_mul_right; omega
            cases hs with
            | nilSl =>
              have hrun := Lib.run_append_nil_zeros (P := P) w t u ty e i z kq kn hu hun hi hz k' (by omega) hc.1 (by omega) (by omega)
              exact ⟨_, _, _, hrun, by simpa using hv, EE, RR⟩
            | noSl =>
              rename_i b
              have hrun := Lib.run_append_grow_zeros (P := P) w t u ty e i z kq kn hu hun hi hz (some b) 0 0 [] (run_firstCells_zero P _ _ (.inr ⟨_, _, rfl⟩)) k' (by omega) hc.1 (by omega) (by omega) (by omega) (growslice_fits (by omega) (by rw [Nat.zero_add]; omega))
              simp only [Nat.zero_add, show ([] : List Value).toArray = #[] from rfl, Array.empty_append] at hrun
              exact ⟨_, _, _, hrun, by simpa using hv, EE, RR⟩
          · cases h
        · cases h
      · cases h
    · cases h
  · cases h
theorem run_append_fitS {e n : Nat} (he : eltp P t = some (e, n)) {u : TypeId} (ty : TypeId) (w : World) (a0 : Addr) (sLen sCap : Nat) {m : Nat} {cs : List Value} (hs : Src P n u d m cs w) (hroom : sLen + m ≤ sCap)
    (hst : (storeCells (a0.add (sLen * n)) cs).run P w = .ok () w') :
    (Builtin.append_ #[t, u] ty #[.slice (some a0) sLen sCap, d]).run P w = .ok (.slice (some a0) (sLen + m) sCap) w' := by
  obtain ⟨hu, i, z, hi, hsz, hp, hb, hz, hzs⟩ := eltp_spec he
  subst hsz
  rcases hs.kind with ⟨e', hk⟩ | hk <;> simp [Builtin.append_, run_underlying hu, run_underlying hk, sizeOf, typeInfo, hi, hs.len, hroom, hs.cells, hst]
theorem run_append_zeroS {e n : Nat} (he : eltp P t = some (e, n)) {u : TypeId} (ty : TypeId) (w : World) (base : Option Addr) (sLen sCap : Nat) (hc : sLen ≤ sCap) (hs : Src P n u d 0 [] w) :
    (Builtin.append_ #[t, u] ty #[.slice base sLen sCap, d]).run P w = .ok (.slice base sLen sCap) w := by
  obtain ⟨hu, i, z, hi, hsz, hp, hb, hz, hzs⟩ := eltp_spec he
  subst hsz
  cases base with
  | none => rcases hs.kind with ⟨e', hk⟩ | hk <;> simp [Builtin.append_, run_underlying hu, run_underlying hk, sizeOf, typeInfo, hi, hs.len, hc, hs.cells]
  | some a => rcases hs.kind with ⟨e', hk⟩ | hk <;> simp [Builtin.append_, run_underlying hu, run_underlying hk, sizeOf, typeInfo, hi, hs.len, hc, hs.cells, storeCells]
theorem byteCells_at {b : ByteArray} {j : Nat} {v : Value} (h : (byteCells b)[j]? = some v) : ∃ n, v = .int .u8 n := by
  unfold byteCells at h
  rw [List.getElem?_map] at h
  cases hq : b.data.toList[j]? with
  | none => rw [hq] at h; cases h
  | some x => rw [hq] at h; cases h; exact ⟨_, rfl⟩
theorem appS_ok (R : Rel P B w0 frz ι H w) (hf0 : frz ≤ H.length) {u ty : TypeId} {b : ByteArray} (hs : VRel P H ι s c) (h : vappS P frz H t u s b = some (v, H')) :
    ∃ c' w' ι', (Builtin.append_ #[t, u] ty #[c, .string b]).run P w = .ok c' w' ∧ VRel P H' ι' v c' ∧ Ext H ι H' ι' ∧ Rel P B w0 frz ι' H' w' := by
  unfold vappS at h
  split at h
  · rename_i hus
    have hus : P.underlying u = some .string := by
      unfold isStr at hus; split at hus
      · assumption
      · cases hus
    split at h
    · rename_i e n he
      obtain ⟨hu, i, z, hi, hsz, hp, hb, hz, hzs⟩ := eltp_spec he
      split at h
      · rename_i hn
        obtain ⟨hn1, hn2⟩ := hn
        have hsrc := Src.ofString (P := P) w hus b
        have hlen := byteCells_length b
        have hlit : ∀ (q : Nat) (v c : Value) (ι : Inj) (H : Heap), (byteCells b)[q]? = some v → (byteCells b)[q]? = some c → VRel P H ι v c := fun q v c ι H h1 h2 => by
          rw [h1] at h2; cases h2; obtain ⟨k, rfl⟩ := byteCells_at h1; exact .int _ _
        subst hn1
        split at h
        · -- nil
          by_cases h0 : b.size = 0
          · rw [if_pos h0] at h; cases h
            have hsrc0 : Src P 1 u (.string b) 0 [] w := by
              have hb0 : byteCells b = [] := List.eq_nil_of_length_eq_zero (by omega)
              have h9 := hsrc
              rw [hb0, h0] at h9; exact h9
            cases hs with
            | nilSl => exact ⟨_, w, ι, run_append_zeroS he ty w none 0 0 (Nat.le_refl _) hsrc0, .nilSl, Ext.refl _ _, R⟩
            | noSl => exact ⟨_, w, ι, run_append_zeroS he ty w (some _) 0 0 (Nat.le_refl _) hsrc0, .noSl, Ext.refl _ _, R⟩
          · rw [if_neg h0] at h
            split at h
            · rename_i hm
              cases h
              have hm8 : b.size * i.bytes ≤ 1073741824 * 65536 := Nat.mul_le_mul hm hb
              have hg := grownCap_ge w (0 + b.size) 0 e
              have hsrc' : Src P i.size u (.string b) b.size (byteCells b) w := by rw [hsz]; exact hsrc
              have run1 : ∀ base : Option Addr, (Builtin.append_ #[t, u] ty #[.slice base 0 0, .string b]).run P w = .ok (.slice (some ⟨w.heap.size, 0, none⟩) (0 + b.size) (grownCap w (0 + b.size) 0 e)) (w.drew.alloc (.cells (([] ++ byteCells b).toArray ++ Builtin.zeroCells z.cells (grownCap w (0 + b.size) 0 e - (0 + b.size))) e)) := fun base =>
                run_append_grow_src (P := P) w t u ty e i z hu hi hz base 0 0 [] (by cases base <;> simp [Builtin.firstCells, loadCells, loadCellsFrom]) (.string b) b.size (byteCells b) hsrc' (by omega) (by omega) (growslice_fits (by omega) (by rw [Nat.zero_add]; omega))
              obtain ⟨RR, EE⟩ := R.drew.alloc hf0 (byteCells b) (([] ++ byteCells b).toArray ++ Builtin.zeroCells z.cells (grownCap w (0 + b.size) 0 e - (0 + b.size))) e (by simp [size_zeroCells]) (fun j v hj => by
                have hlt := (List.getElem?_eq_some_iff.1 hj).1
                refine ⟨(byteCells b)[j], ?_, hlit j v _ _ _ hj (List.getElem?_eq_getElem hlt)⟩
                rw [Array.getElem?_append_left (by simp; omega)]; simp)
              have fin : VRel P (H ++ [⟨byteCells b, 0, e⟩]) (ι.at H.length ⟨w.drew.heap.size, 0, (([] ++ byteCells b).toArray ++ Builtin.zeroCells z.cells (grownCap w (0 + b.size) 0 e - (0 + b.size))).size⟩) (.slice (some ⟨H.length, 0, some 0⟩) b.size 0) (.slice (some ⟨w.heap.size, 0, none⟩) (0 + b.size) (grownCap w (0 + b.size) 0 e)) := by
                rw [Nat.zero_add] at hg ⊢
                refine .sl (r := ⟨byteCells b, 0, e⟩) (l := ⟨w.heap.size, 0, _⟩) (by simp) rfl (by simp [Inj.at]; rfl) hg (fun _ => ?_)
                simp only [Array.size_append, size_zeroCells, List.size_toArray, List.nil_append, hlen, hzs, cellsOf_of hi, hsz, Nat.mul_one, Nat.zero_add]
                omega
              cases hs with
              | nilSl => exact ⟨_, _, _, run1 none, fin, EE, RR⟩
              | noSl => exact ⟨_, _, _, run1 (some _), fin, EE, RR⟩
            · cases h
        · -- a row
          rename_i a0 len k
          split at h
          · rename_i r hr
            obtain ⟨hr1, hr2⟩ := look_some hr
            by_cases h0 : b.size = 0
            · rw [if_pos h0] at h; cases h
              have hsrc0 : Src P 1 u (.string b) 0 [] w := by
                have hb0 : byteCells b = [] := List.eq_nil_of_length_eq_zero (by omega)
                have h9 := hsrc
                rw [hb0, h0] at h9; exact h9
              have hcc : ∃ a' cap, c = .slice (some a') len cap ∧ len ≤ cap := by
                rcases hs.sl_inv hr with ⟨l, cap, _, h1, _, h2⟩ | ⟨h1, _, b, h2⟩
                · exact ⟨_, _, h2, h1⟩
                · exact ⟨b, 0, by rw [h2, h1], by omega⟩
              obtain ⟨a', cap, rfl, hle⟩ := hcc
              exact ⟨_, w, ι, run_append_zeroS he ty w _ _ _ hle hsrc0, hs, Ext.refl _ _, R⟩
            · rw [if_neg h0] at h
              split at h
              · rename_i hc
                obtain ⟨hk0, hfr, hoff, hel, hm, ho1⟩ := hc
                rw [vkeep_eq hoff] at h
                cases h
                have hsrc' : Src P i.size u (.string b) b.size (byteCells b) w := by rw [hsz]; exact hsrc
                have hbytes : (len + b.size) * i.bytes ≤ 140737488355328 := by
                  have : (len + b.size) * i.bytes ≤ 1073741824 * 65536 := Nat.mul_le_mul hm hb
                  omega
                have hdl : ((r.cells.drop a0.off).take len).length = len := by simp; omega
                have hgrow : ∀ (b0 : Addr) (olds : List Value) (sCap : Nat) (l : Loc), ι a0.block = some l → olds.length = len → (∀ j v, olds[j]? = some v → w.cell? (b0.add j) = some v) →
                    (∀ (q : Nat) (v c : Value), ((r.cells.drop a0.off).take len)[q]? = some v → olds[q]? = some c → VRel P H ι v c) → sCap < len + b.size →
                    ∃ c' w' ι', (Builtin.append_ #[t, u] ty #[.slice (some b0) len sCap, .string b]).run P w = .ok c' w' ∧
                      VRel P (H.set a0.block ⟨(r.cells.drop a0.off).take len ++ byteCells b, r.gen + 1, e⟩) ι' (.slice (some ⟨a0.block, 0, some (r.gen + 1)⟩) (len + b.size) 0) c' ∧
                      Ext H ι (H.set a0.block ⟨(r.cells.drop a0.off).take len ++ byteCells b, r.gen + 1, e⟩) ι' ∧ Rel P B w0 frz ι' (H.set a0.block ⟨(r.cells.drop a0.off).take len ++ byteCells b, r.gen + 1, e⟩) w' := by
                  intro b0 olds sCap l hl hlo hold hrelo hcap
                  have hrun := run_append_grow_src (P := P) w t u ty e i z hu hi hz (some b0) len sCap olds (run_firstCells_some (P := P) w.drew i.size len b0 len sCap olds (by rw [hsz]; omega) (by simpa using hold)) (.string b) b.size (byteCells b) hsrc' hcap (by omega) (growslice_fits hcap hbytes)
                  have hg := grownCap_ge w (len + b.size) sCap e
                  obtain ⟨RR, EE⟩ := R.drew.move (id := a0.block) (r := r) (r' := ⟨(r.cells.drop a0.off).take len ++ byteCells b, r.gen + 1, e⟩) (l := l) (cur' := (olds ++ byteCells b).toArray ++ Builtin.zeroCells z.cells (grownCap w (len + b.size) sCap e - (len + b.size)))
                    hl hr1 hfr hel.symm (Nat.lt_succ_self _) (by simp [size_zeroCells]; omega) (fun j v hj => by
                      by_cases hjl : j < len
                      · rw [List.getElem?_append_left (by omega)] at hj
                        refine ⟨olds[j]'(by omega), ?_, hrelo j v _ hj (List.getElem?_eq_getElem (by omega))⟩
                        rw [Array.getElem?_append_left (by simp; omega)]; simp [List.getElem?_append_left (show j < olds.length by omega)]
                      · rw [List.getElem?_append_right (by omega)] at hj
                        have hlt := (List.getElem?_eq_some_iff.1 hj).1
                        rw [hdl] at hj hlt
                        refine ⟨(byteCells b)[j - len]'(by omega), ?_, hlit _ v _ _ _ hj (List.getElem?_eq_getElem (by omega))⟩
                        rw [Array.getElem?_append_left (by simp; omega)]
                        simp [List.getElem?_append_right (show olds.length ≤ j by omega), hlo])
                  refine ⟨_, _, _, hrun, ?_, EE, RR⟩
                  have hlt := R.lt hl
                  refine .sl (r := ⟨(r.cells.drop a0.off).take len ++ byteCells b, r.gen + 1, e⟩) (l := ⟨w.heap.size, 0, _⟩) (by simp [hlt]) rfl (by simp [Inj.at]; rfl) hg (fun _ => ?_)
                  simp only [Array.size_append, size_zeroCells, List.size_toArray, List.length_append, hlo, hlen, hzs, cellsOf_of hi, hsz, Nat.mul_one, Nat.zero_add]
                  omega
                rcases hs.sl_inv hr with ⟨l, cap0, hl, hle, hcap0, rfl⟩ | ⟨rfl, ⟨l, hl⟩, b', rfl⟩
                · obtain ⟨_, r', hr', hra⟩ := R.row _ _ hl
                  rw [hr'] at hr1; cases hr1
                  by_cases hroom : len + b.size ≤ cap0
                  · -- in place
                    obtain ⟨q1, ⟨cur, q2, q3⟩, q4⟩ := R.own _ l r hl hr' hfr
                    have hcap0 := hcap0 hk0
                    rw [hel, cellsOf_of hi, hsz, Nat.mul_one] at hcap0
                    have hst := run_storeCells_at P l.b (l.o + (a0.off + len)) r.elem (byteCells b) 0 cur w q2 (by omega) (fun v hv => hsrc.one v hv)
                    simp only [Nat.add_zero] at hst
                    have hrun := run_append_fitS he ty w (l.at a0.off) len cap0 hsrc hroom (by rw [Loc.at_add, Nat.mul_one]; exact hst)
                    have hra2 := hra.2
                    obtain ⟨RR, EE⟩ := R.write (r' := ⟨(r.cells.drop a0.off).take len ++ byteCells b, r.gen + 1, e⟩) (l' := ⟨l.b, l.o + a0.off, l.n - a0.off⟩) (cur := cur)
                      (cur' := (VM.splice cur.toList (l.o + (a0.off + len)) (byteCells b)).toArray) hl hr' hfr hel.symm (Nat.le_succ _) (fun h => absurd h (by simp)) rfl q2
                      (by simp only [List.size_toArray]; rw [length_splice _ _ _ (by simp; omega)]; simp; omega) (by simp; omega) (fun j v hj => by
                        rw [List.getElem?_toArray, getElem?_splice _ _ _ _ (by simp; omega)]
                        by_cases hjl : j < len
                        · rw [List.getElem?_append_left (by omega), List.getElem?_take, if_pos hjl, List.getElem?_drop] at hj
                          obtain ⟨c, hc, hv⟩ := hra2 _ v hj
                          refine ⟨c, ?_, hv⟩
                          simp only [] 
                          rw [if_pos (by omega)]
                          simpa [World.cell?, Loc.at, q2, Nat.add_assoc] using hc
                        · rw [List.getElem?_append_right (by omega), hdl] at hj
                          have hlt := (List.getElem?_eq_some_iff.1 hj).1
                          refine ⟨(byteCells b)[j - len]'(by omega), ?_, hlit _ v _ _ _ hj (List.getElem?_eq_getElem (by omega))⟩
                          simp only []
                          rw [if_neg (by omega), if_pos (by omega), show l.o + a0.off + j - (l.o + (a0.off + len)) = j - len by omega]
                          exact List.getElem?_eq_getElem (by omega))
                    refine ⟨_, _, _, hrun, ?_, EE, RR⟩
                    have hlt := R.lt hl
                    have := VRel.sl (P := P) (H := H.set a0.block ⟨(r.cells.drop a0.off).take len ++ byteCells b, r.gen + 1, e⟩) (ι := ι.at a0.block ⟨l.b, l.o + a0.off, l.n - a0.off⟩) (a := ⟨a0.block, 0, some (r.gen + 1)⟩)
                      (r := ⟨(r.cells.drop a0.off).take len ++ byteCells b, r.gen + 1, e⟩) (l := ⟨l.b, l.o + a0.off, l.n - a0.off⟩) (len := len + b.size) (k := 0) (cap := cap0) (by simp [hlt]) rfl (by simp [Inj.at]) hroom (fun _ => by simp [cellsOf_of hi, hsz]; omega)
                    simpa [Loc.at] using this
                  · obtain ⟨olds, g1, g2, g3⟩ := hra.read a0.off len (by omega)
                    refine hgrow (l.at a0.off) olds cap0 l hl g1 (fun j v hj => by rw [Loc.at_add]; exact g2 j v hj) g3 (by omega)
                · refine hgrow b' [] 0 l hl (by simp) (by simp) (by simp) (by omega)
              · cases h
          · cases h
        · cases h
      · cases h
    · cases h
  · cases h
theorem appendX_ok (R : Rel P B w0 frz ι H w) (hf0 : frz ≤ H.length) {u ty : TypeId} (hs : VRel P H ι s c) (hx : VRel P H ι x d) (h : vappendX P frz H t u s x = some (v, H')) :
    ∃ c' w' ι', (Builtin.append_ #[t, u] ty #[c, d]).run P w = .ok c' w' ∧ VRel P H' ι' v c' ∧ Ext H ι H' ι' ∧ Rel P B w0 frz ι' H' w' := by
  unfold vappendX at h
  split at h
  · cases hx; exact appS_ok R hf0 hs h
  · exact appendZ_ok R hf0 hs hx h
theorem append_ok (R : Rel P B w0 frz ι H w) (hf0 : frz ≤ H.length) {u ty : TypeId} (hs : VRel P H ι s c) (hx : VRel P H ι x d) (h : vappend P frz H t u s x = some (v, H')) :
    ∃ c' w' ι', (Builtin.append_ #[t, u] ty #[c, d]).run P w = .ok c' w' ∧ VRel P H' ι' v c' ∧ Ext H ι H' ι' ∧ Rel P B w0 frz ι' H' w' := by
  unfold vappend at h
  split at h
  · rename_i htu
    subst htu
    split at h
    · rename_i e n he
      obtain ⟨hu, i, z, hi, hsz, hp, hb, hz, hzs⟩ := eltp_spec he
      split at h
      · rename_i m news hsrc
        obtain ⟨cs, hc1, hc2, hc3, hc4⟩ := src_ok R hx hsrc
        have hd0 : m = 0 → (d = .slice none 0 0) ∨ ∃ a cap, d = .slice (some a) 0 cap := fun h0 => by
          rcases hc4 with ⟨h1, _⟩ | ⟨a, cap, h1, _⟩
          · exact .inl h1
          · exact .inr ⟨a, cap, by rw [h1, h0]⟩
        split at h
        · -- nil
          by_cases h0 : m = 0
          · rw [if_pos h0] at h; cases h
            cases hs with
            | nilSl => exact ⟨_, w, ι, run_append_zero he ty w none 0 0 (Nat.le_refl _) (hd0 h0), .nilSl, Ext.refl _ _, R⟩
            | noSl => exact ⟨_, w, ι, run_append_zero he ty w (some _) 0 0 (Nat.le_refl _) (hd0 h0), .noSl, Ext.refl _ _, R⟩
          · rw [if_neg h0] at h
            split at h
            · rename_i hm
              cases h
              obtain ⟨a, cap, rfl, hrd⟩ : ∃ a cap, d = .slice (some a) m cap ∧ ∀ j v, cs[j]? = some v → w.cell? (a.add j) = some v := by
                rcases hc4 with ⟨_, h1⟩ | h1
                · exact absurd h1 h0
                · exact h1
              subst hsz
              have hrun := run_append_nil (P := P) w t ty e i z hu hi hz a m cap cs hc1 hrd (by omega) (by omega) (by
                have : m * i.bytes ≤ 1073741824 * 65536 := Nat.mul_le_mul hm.1 hb
                omega)
              have hg := grownCap_ge w m 0 e
              obtain ⟨RR, EE⟩ := R.drew.alloc hf0 news (cs.toArray ++ Builtin.zeroCells z.cells (grownCap w m 0 e - m)) e (by simp [size_zeroCells]; omega) (fun j v hj => by
                have hlt := (List.getElem?_eq_some_iff.1 hj).1
                refine ⟨cs[j]'(by omega), ?_, hc3 j v _ hj (List.getElem?_eq_getElem (by omega))⟩
                rw [Array.getElem?_append_left (by simp; omega)]; simp)
              have hb8 : m * i.bytes ≤ 1073741824 * 65536 := Nat.mul_le_mul hm.1 hb
              cases hs with
              | noSl =>
                rename_i b
                have hrun' := run_append_grow (P := P) w t ty e i z hu hi hz b 0 0 [] (by simp) (by simp) a m cap cs hc1 hrd (by omega) (by omega) (growslice_fits (by omega) (by rw [Nat.zero_add]; omega))
                simp only [Nat.zero_add, show ([] : List Value).toArray = #[] from rfl, Array.empty_append] at hrun'
                refine ⟨_, _, _, hrun', ?_, EE, RR⟩
                refine .sl (r := ⟨news, 0, e⟩) (l := ⟨w.heap.size, 0, _⟩) (by simp) rfl (by simp [Inj.at]; rfl) hg (fun _ => ?_)
                simp only [Array.size_append, size_zeroCells, List.size_toArray, hc1, hzs, cellsOf_of hi, Nat.zero_add]
                rw [← Nat.add_mul]; apply Nat.mul_le_mul_right; omega
              | nilSl =>
              refine ⟨_, _, _, hrun, ?_, EE, RR⟩
              refine .sl (r := ⟨news, 0, e⟩) (l := ⟨w.heap.size, 0, _⟩) (by simp) rfl (by simp [Inj.at]; rfl) hg (fun _ => ?_)
              simp only [Array.size_append, size_zeroCells, List.size_toArray, hc1, hzs, cellsOf_of hi, Nat.zero_add]
              rw [← Nat.add_mul]; apply Nat.mul_le_mul_right; omega
            · cases h
        · -- a row
          rename_i a0 len k
          split at h
          · rename_i r hr
            obtain ⟨hr1, hr2⟩ := look_some hr
            by_cases h0 : m = 0
            · rw [if_pos h0] at h; cases h
              have hcc : ∃ a' cap, c = .slice (some a') len cap ∧ len ≤ cap := by
                rcases hs.sl_inv hr with ⟨l, cap, _, h1, _, h2⟩ | ⟨h1, _, b, h2⟩
                · exact ⟨_, _, h2, h1⟩
                · exact ⟨b, 0, by rw [h2, h1], by omega⟩
              obtain ⟨a', cap, rfl, hle⟩ := hcc
              exact ⟨_, w, ι, run_append_zero he ty w _ _ _ hle (hd0 h0), hs, Ext.refl _ _, R⟩
            · rw [if_neg h0] at h
              split at h
              · rename_i hc
                obtain ⟨hk0, hfr, hoff, hel, hm, ho1, ho2⟩ := hc
                rw [vkeep_eq hoff] at h
                cases h
                obtain ⟨a, cap, rfl, hrd⟩ : ∃ a cap, d = .slice (some a) m cap ∧ ∀ j v, cs[j]? = some v → w.cell? (a.add j) = some v := by
                  rcases hc4 with ⟨_, h1⟩ | h1
                  · exact absurd h1 h0
                  · exact h1
                subst hsz
                have hbytes : (len + m) * i.bytes ≤ 140737488355328 := by
                  have : (len + m) * i.bytes ≤ 1073741824 * 65536 := Nat.mul_le_mul hm hb
                  omega
                -- the old cells
                have hgrow : ∀ (b : Addr) (olds : List Value) (sCap : Nat) (l : Loc), ι a0.block = some l → olds.length = len * i.size → (∀ j v, olds[j]? = some v → w.cell? (b.add j) = some v) →
                    (∀ (q : Nat) (v c : Value), ((r.cells.drop a0.off).take (len * i.size))[q]? = some v → olds[q]? = some c → VRel P H ι v c) → sCap < len + m →
                    ∃ c' w' ι', (Builtin.append_ #[t, t] ty #[.slice (some b) len sCap, .slice (some a) m cap]).run P w = .ok c' w' ∧
                      VRel P (H.set a0.block ⟨(r.cells.drop a0.off).take (len * i.size) ++ news, r.gen + 1, e⟩) ι' (.slice (some ⟨a0.block, 0, some (r.gen + 1)⟩) (len + m) 0) c' ∧
                      Ext H ι (H.set a0.block ⟨(r.cells.drop a0.off).take (len * i.size) ++ news, r.gen + 1, e⟩) ι' ∧ Rel P B w0 frz ι' (H.set a0.block ⟨(r.cells.drop a0.off).take (len * i.size) ++ news, r.gen + 1, e⟩) w' := by
                  intro b olds sCap l hl hlo hold hrelo hcap
                  have hrun := run_append_grow (P := P) w t ty e i z hu hi hz b len sCap olds hlo hold a m cap cs hc1 hrd hcap (by omega) (growslice_fits hcap hbytes)
                  have hg := grownCap_ge w (len + m) sCap e
                  have hdl : ((r.cells.drop a0.off).take (len * i.size)).length = len * i.size := by simp; omega
                  obtain ⟨RR, EE⟩ := R.drew.move (id := a0.block) (r := r) (r' := ⟨(r.cells.drop a0.off).take (len * i.size) ++ news, r.gen + 1, e⟩) (l := l) (cur' := olds.toArray ++ cs.toArray ++ Builtin.zeroCells z.cells (grownCap w (len + m) sCap e - (len + m)))
                    hl hr1 hfr hel.symm (Nat.lt_succ_self _) (by simp [size_zeroCells]; omega) (fun j v hj => by
                      simp only [Array.append_assoc]
                      by_cases hjl : j < len * i.size
                      · rw [List.getElem?_append_left (by omega)] at hj
                        refine ⟨olds[j]'(by omega), ?_, hrelo j v _ hj (List.getElem?_eq_getElem (by omega))⟩
                        rw [Array.getElem?_append_left (by simp; omega)]; simp
                      · rw [List.getElem?_append_right (by omega)] at hj
                        have hlt := (List.getElem?_eq_some_iff.1 hj).1
                        rw [hdl] at hj hlt
                        refine ⟨cs[j - len * i.size]'(by omega), ?_, hc3 _ v _ hj (List.getElem?_eq_getElem (by omega))⟩
                        rw [Array.getElem?_append_right (by simp; omega), Array.getElem?_append_left (by simp; omega)]
                        simp [hlo])
                  refine ⟨_, _, _, hrun, ?_, EE, RR⟩
                  have hlt := R.lt hl
                  refine .sl (r := ⟨(r.cells.drop a0.off).take (len * i.size) ++ news, r.gen + 1, e⟩) (l := ⟨w.heap.size, 0, _⟩) (by simp [hlt]) rfl (by simp [Inj.at]; rfl) hg (fun _ => ?_)
                  simp only [Array.size_append, size_zeroCells, List.size_toArray, hc1, hlo, hzs, cellsOf_of hi, Nat.zero_add]
                  rw [← Nat.add_mul, ← Nat.add_mul]; apply Nat.mul_le_mul_right; omega
                rcases hs.sl_inv hr with ⟨l, cap0, hl, hle, hcap0, rfl⟩ | ⟨rfl, ⟨l, hl⟩, b, rfl⟩
                · obtain ⟨_, r', hr', hra⟩ := R.row _ _ hl
                  rw [hr'] at hr1; cases hr1
                  by_cases hroom : len + m ≤ cap0
                  · -- in place
                    obtain ⟨q1, ⟨cur, q2, q3⟩, q4⟩ := R.own _ l r hl hr' hfr
                    have hcap0 := hcap0 hk0
                    rw [hel, cellsOf_of hi] at hcap0
                    have hmul : (len + m) * i.size ≤ cap0 * i.size := Nat.mul_le_mul_right _ hroom
                    rw [Nat.add_mul] at hmul
                    have hst := run_storeCells_at P l.b (l.o + (a0.off + len * i.size)) r.elem cs 0 cur w q2 (by omega) (ones_rel ho2 (by omega) hc3)
                    simp only [Nat.add_zero] at hst
                    have hrun := run_append_fit (cap := cap) he ty w (l.at a0.off) len cap0 hc1 hrd hroom (by rw [Loc.at_add]; exact hst)
                    have hra2 := hra.2
                    obtain ⟨RR, EE⟩ := R.write (r' := ⟨(r.cells.drop a0.off).take (len * i.size) ++ news, r.gen + 1, e⟩) (l' := ⟨l.b, l.o + a0.off, l.n - a0.off⟩) (cur := cur)
                      (cur' := (VM.splice cur.toList (l.o + (a0.off + len * i.size)) cs).toArray) hl hr' hfr hel.symm (Nat.le_succ _) (fun h => absurd h (by simp)) rfl q2
                      (by simp only [List.size_toArray]; rw [length_splice _ _ _ (by simp; omega)]; simp; omega) (by simp; omega) (fun j v hj => by
                        rw [List.getElem?_toArray, getElem?_splice _ _ _ _ (by simp; omega)]
                        have hdl : ((r.cells.drop a0.off).take (len * i.size)).length = len * i.size := by simp; omega
                        by_cases hjl : j < len * i.size
                        · rw [List.getElem?_append_left (by omega), List.getElem?_take, if_pos hjl, List.getElem?_drop] at hj
                          obtain ⟨c, hc, hv⟩ := hra2 _ v hj
                          refine ⟨c, ?_, hv⟩
                          simp only [] 
                          rw [if_pos (by omega)]
                          simpa [World.cell?, Loc.at, q2, Nat.add_assoc] using hc
                        · rw [List.getElem?_append_right (by omega), hdl] at hj
                          have hlt := (List.getElem?_eq_some_iff.1 hj).1
                          refine ⟨cs[j - len * i.size]'(by omega), ?_, hc3 _ v _ hj (List.getElem?_eq_getElem (by omega))⟩
                          simp only []
                          rw [if_neg (by omega), if_pos (by omega), show l.o + a0.off + j - (l.o + (a0.off + len * i.size)) = j - len * i.size by omega]
                          exact List.getElem?_eq_getElem (by omega))
                    refine ⟨_, _, _, hrun, ?_, EE, RR⟩
                    have hlt := R.lt hl
                    have := VRel.sl (P := P) (H := H.set a0.block ⟨(r.cells.drop a0.off).take (len * i.size) ++ news, r.gen + 1, e⟩) (ι := ι.at a0.block ⟨l.b, l.o + a0.off, l.n - a0.off⟩) (a := ⟨a0.block, 0, some (r.gen + 1)⟩)
                      (r := ⟨(r.cells.drop a0.off).take (len * i.size) ++ news, r.gen + 1, e⟩) (l := ⟨l.b, l.o + a0.off, l.n - a0.off⟩) (len := len + m) (k := 0) (cap := cap0) (by simp [hlt]) rfl (by simp [Inj.at]) hroom (fun _ => by simp [cellsOf_of hi]; omega)
                    simpa [Loc.at] using this
                  · obtain ⟨olds, g1, g2, g3⟩ := hra.read a0.off (len * i.size) (by omega)
                    refine hgrow (l.at a0.off) olds cap0 l hl g1 (fun j v hj => by rw [Loc.at_add]; exact g2 j v hj) g3 (by omega)
                · refine hgrow b [] 0 l hl (by simp) (by simp) (by simp) (by omega)
              · cases h
          · cases h
        · cases h
      · cases h
    · cases h
  · exact appendX_ok R hf0 hs hx h
end Go.VM
/-! The other operations. -/
set_option linter.all false
namespace Go.VM
open Go Go.RowKit
variable {P : Program} {H H' : Heap} {ι ι' : Inj} {v c x y d s : Value} {B frz : Nat} {w0 w w' : World} {t : TypeId}

theorem run_firstCells_take (P : Program) {cs : List Value} {m n : Nat} (k : Nat) (hk : k ≤ m) (hlen : cs.length = m * n)
    (h : (d = .slice none 0 0 ∧ m = 0) ∨ ∃ a cap, d = .slice (some a) m cap ∧ ∀ j v, cs[j]? = some v → w.cell? (a.add j) = some v) :
    (Builtin.firstCells n k d).run P w = .ok (cs.take (k * n)).toArray w := by
  rcases h with ⟨rfl, rfl⟩ | ⟨a, cap, rfl, h⟩
  · have : k = 0 := by omega
    subst this
    simp [Builtin.firstCells]
  · have hm : k * n ≤ m * n := Nat.mul_le_mul_right _ hk
    have := run_loadCells_list (P := P) w a (cs.take (k * n)) (fun j v hj => h j v (by rw [List.getElem?_take] at hj; split at hj; exact hj; cases hj))
    simp only [Builtin.firstCells]
    rwa [show (cs.take (k * n)).length = k * n by simp; omega] at this

theorem copy_ok (R : Rel P B w0 frz ι H w) {u ty : TypeId} (hs : VRel P H ι s c) (hx : VRel P H ι x d) (h : vcopy P frz H t u s x = some (v, H')) :
    ∃ c' w' ι', (Builtin.copy_ #[t, u] ty #[c, d]).run P w = .ok c' w' ∧ VRel P H' ι' v c' ∧ Ext H ι H' ι' ∧ Rel P B w0 frz ι' H' w' := by
  unfold vcopy at h
  split at h
  · rename_i htu
    subst htu
    split at h
    · rename_i e n he
      obtain ⟨hu, i, z, hi, hsz, hp, hb, hz, hzs⟩ := eltp_spec he
      subst hsz
      split at h
      · rename_i m news hsrc
        obtain ⟨cs, hc1, hc2, hc3, hc4⟩ := src_ok R hx hsrc
        have hl : (Builtin.lenOf d).run P w = .ok m w := by
          rcases hc4 with ⟨rfl, rfl⟩ | ⟨a, cap, rfl, _⟩ <;> rfl
        split at h
        · have hf := run_firstCells_take P 0 (Nat.zero_le _) hc1 hc4
          cases h
          cases hs with
          | nilSl =>
            refine ⟨_, w, ι, ?_, .int _ _, Ext.refl _ _, R⟩
            simp [Builtin.copy_, run_underlying hu, sizeOf, typeInfo, hi, hl] at hf ⊢
            simp [hf, goInt]
          | noSl =>
            refine ⟨_, w, ι, ?_, .int _ _, Ext.refl _ _, R⟩
            simp [Builtin.copy_, run_underlying hu, sizeOf, typeInfo, hi, hl] at hf ⊢
            simp [hf, goInt, storeCells]
        · rename_i a0 len k
          split at h
          · rename_i r hr
            obtain ⟨hr1, hr2⟩ := look_some hr
            split at h
            · rename_i hc
              obtain ⟨hfr, hoff, ho⟩ := hc
              cases h
              have hkm : Nat.min m len ≤ m := Nat.min_le_left _ _
              have hf := run_firstCells_take P (Nat.min m len) hkm hc1 hc4
              have hkn : Nat.min m len * i.size ≤ m * i.size := Nat.mul_le_mul_right _ hkm
              have hkl : Nat.min m len * i.size ≤ len * i.size := Nat.mul_le_mul_right _ (Nat.min_le_right _ _)
              have htl : (news.take (Nat.min m len * i.size)).length = Nat.min m len * i.size := by simp [hc2, Nat.min_eq_left hkn]
              have htc : (cs.take (Nat.min m len * i.size)).length = Nat.min m len * i.size := by simp [hc1, Nat.min_eq_left hkn]
              have hones : ones (news.take (Nat.min m len * i.size)) = true := by
                simp only [ones, List.all_eq_true] at ho ⊢
                exact fun v hv => ho v (List.mem_of_mem_take hv)
              have hrl : ∀ (j : Nat) (v c : Value), (news.take (Nat.min m len * i.size))[j]? = some v → (cs.take (Nat.min m len * i.size))[j]? = some c → VRel P H ι v c := fun j v c hv hc => by
                rw [List.getElem?_take] at hv hc
                split at hv
                · rename_i hj; rw [if_pos hj] at hc; exact hc3 j v c hv hc
                · cases hv
              have key : ∀ (l : Loc), ι a0.block = some l → ∀ (b : Addr) (cap : Nat), (Nat.min m len = 0 ∨ b = l.at a0.off) →
                  ∃ c' w' ι', (Builtin.copy_ #[t, t] ty #[.slice (some b) len cap, d]).run P w = .ok c' w' ∧
                    VRel P (H.set a0.block { r with cells := VM.splice r.cells a0.off (news.take (Nat.min m len * i.size)) }) ι' (.int .i64 (Nat.min m len)) c' ∧
                    Ext H ι (H.set a0.block { r with cells := VM.splice r.cells a0.off (news.take (Nat.min m len * i.size)) }) ι' ∧
                    Rel P B w0 frz ι' (H.set a0.block { r with cells := VM.splice r.cells a0.off (news.take (Nat.min m len * i.size)) }) w' := by
                intro l hl' b cap hbl
                obtain ⟨w', ι', hst, E, RR⟩ := R.splice hl' hr1 hfr (news.take (Nat.min m len * i.size)) (cs.take (Nat.min m len * i.size)) a0.off (by rw [htl, htc]) (by rw [htl]; omega) hones hrl
                rcases hbl with h0 | rfl
                · have hw : w' = w := by
                    rw [h0] at hst; simp [storeCells] at hst; exact hst.symm
                  subst hw
                  refine ⟨_, _, _, ?_, .int _ _, E, RR⟩
                  have h0' : Nat.min m len * i.size = 0 := by rw [h0]; simp
                  rw [h0'] at hf
                  simp [Builtin.copy_, run_underlying hu, sizeOf, typeInfo, hi, hl, hf, storeCells, goInt]
                · refine ⟨_, _, _, ?_, .int _ _, E, RR⟩
                  simp [Builtin.copy_, run_underlying hu, sizeOf, typeInfo, hi, hl, hf, hst, goInt]
              rcases hs.sl_inv hr with ⟨l, cap, hl', _, _, rfl⟩ | ⟨rfl, ⟨l, hl'⟩, b, rfl⟩
              · exact key l hl' _ _ (.inr rfl)
              · exact key l hl' _ _ (.inl (by simp))
            · cases h
          · cases h
        · cases h
      · cases h
    · cases h
  · cases h

theorem tzero_spec {e : TypeId} {z : List Value} (h : tzero P e = some z) : ∃ i z', P.info? e = some i ∧ i.zero = some z' ∧ z'.cells.toList = z ∧ ∀ v ∈ z, lit1 v = true := by
  unfold tzero at h
  split at h
  · rename_i z' hz
    split at h
    · rename_i ha
      cases h
      cases hi : P.info? e with
      | none => simp [hi] at hz
      | some i => simp [hi] at hz; exact ⟨i, z', rfl, hz, rfl, List.all_eq_true.1 ha⟩
    · cases h
  · cases h
theorem lit1_one (h : lit1 v = true) : one v = true := by
  cases v <;> first | rfl | (simp [lit1] at h)
theorem getElem?_flatten_replicate (z : List Value) : ∀ (m j : Nat), j < m * z.length → (List.replicate m z).flatten[j]? = z[j % z.length]?
  | 0, j, h => by simp at h
  | m + 1, j, h => by
    simp only [List.replicate_succ, List.flatten_cons]
    by_cases hj : j < z.length
    · rw [List.getElem?_append_left hj, Nat.mod_eq_of_lt hj]
    · rw [List.getElem?_append_right (by omega), getElem?_flatten_replicate z m (j - z.length) (by rw [Nat.succ_mul] at h; omega)]
      congr 1
      rw [Nat.mod_eq_sub_mod (by omega : z.length ≤ j)]
theorem length_flatten_replicate (z : List Value) (m : Nat) : (List.replicate m z).flatten.length = m * z.length := by simp
theorem madeCells_get (z : Array Value) (n j : Nat) (hj : j < n) (hz : 0 < z.size) : (madeCells z n)[j]? = z[j % z.size]? := by
  have : j % z.size < z.size := Nat.mod_lt _ hz
  simp [madeCells, Array.getElem?_map, Array.getElem?_range, hj, this]

theorem make_ok (R : Rel P B w0 frz ι H w) (hf0 : frz ≤ H.length) (hx : VRel P H ι x c) (hy : VRel P H ι y d) (h : vmake P H t x y = some (v, H')) :
    ∃ c' w' ι', (Instr.makeSlice t c d).run P w = .ok c' w' ∧ VRel P H' ι' v c' ∧ Ext H ι H' ι' ∧ Rel P B w0 frz ι' H' w' := by
  unfold vmake at h
  split at h
  · rename_i kl l kc c0
    cases hx; cases hy
    split at h
    · rename_i e n he
      obtain ⟨hu, i, z, hi, hsz, hp, hb, hz, hzs⟩ := eltp_spec he
      split at h
      · rename_i z1 hz1
        obtain ⟨i', z', hi', hz', hzz, hlit⟩ := tzero_spec hz1
        rw [hi] at hi'; cases hi'
        rw [hz] at hz'; cases hz'
        split at h
        · rename_i hc
          cases h
          subst hsz
          have hrun := run_make (P := P) w t e i z hu hi hz kl kc l c0 hc.1 hc.2.1 (by
            have h1 : (i.bytes : Int) * c0 ≤ 65536 * 1073741824 := by
              have : (i.bytes : Int) ≤ 65536 := by omega
              exact Int.mul_le_mul this hc.2.2 (by omega) (by omega)
            omega) (by omega)
          have hzl : z1.length = i.size := by rw [← hzz]; simpa using hzs
          have hmul : l.toNat * i.size ≤ c0.toNat * i.size := Nat.mul_le_mul_right _ (by omega)
          obtain ⟨RR, EE⟩ := R.alloc hf0 (List.replicate l.toNat z1).flatten (madeCells z.cells (c0.toNat * i.size)) e (by rw [length_flatten_replicate, size_madeCells, hzl]; exact hmul) (fun j v hj => by
            have hlt := (List.getElem?_eq_some_iff.1 hj).1
            rw [length_flatten_replicate] at hlt
            rw [getElem?_flatten_replicate _ _ _ hlt] at hj
            refine ⟨v, ?_, .lit (hlit v (List.mem_of_getElem? hj))⟩
            rw [madeCells_get _ _ _ (by rw [hzl] at hlt; omega) (by omega), ← hj, ← hzz]; simp)
          refine ⟨_, _, _, hrun, ?_, EE, RR⟩
          exact .sl (r := ⟨(List.replicate l.toNat z1).flatten, 0, e⟩) (l := ⟨w.heap.size, 0, _⟩) (by simp) rfl (by simp [Inj.at]; rfl) (by omega) (fun _ => by simp [cellsOf_of hi, size_madeCells])
        · cases h
      · cases h
    · cases h
  · cases h

theorem isSl_spec (h : isSl P t = true) : ∃ e, P.underlying t = some (.slice e) := by
  unfold isSl at h; split at h; exact ⟨_, by assumption⟩; cases h
theorem flatten_replicate_get (z : Array Value) (n i : Nat) (h : i < n * z.size) : (Builtin.zeroCells z n).toList[i]? = z[i % z.size]? := by
  have hz : 0 < z.size := Nat.pos_of_ne_zero fun e => by rw [e] at h; simp at h
  have : i % z.size < z.size := Nat.mod_lt _ hz
  simp [Builtin.zeroCells, h, this]
theorem clear_ok (R : Rel P B w0 frz ι H w) {ty : TypeId} (hs : VRel P H ι s c) (h : vclear P frz H t s = some (v, H')) :
    ∃ c' w' ι', (Builtin.clear_ #[t] ty #[c]).run P w = .ok c' w' ∧ VRel P H' ι' v c' ∧ Ext H ι H' ι' ∧ Rel P B w0 frz ι' H' w' := by
  unfold vclear at h
  split at h
  · split at h
    · rename_i hu
      obtain ⟨e, hu⟩ := isSl_spec hu
      cases h
      cases hs with
      | nilSl => exact ⟨_, w, ι, by simp [Builtin.clear_, run_underlying hu]; rfl, .undef, Ext.refl _ _, R⟩
      | noSl => exact ⟨_, w, ι, by simp [Builtin.clear_, run_underlying hu]; rfl, .undef, Ext.refl _ _, R⟩
    · cases h
  · rename_i a n k
    split at h
    · rename_i e sz he
      obtain ⟨hu, i, z, hi, hsz, hp, hb, hz, hzs⟩ := eltp_spec he
      subst hsz
      split at h
      · rename_i z1 hz1
        obtain ⟨i', z', hi', hz', hzz, hlit⟩ := tzero_spec hz1
        rw [hi] at hi'; cases hi'
        rw [hz] at hz'; cases hz'
        have hzl : z1.length = i.size := by rw [← hzz]; simpa using hzs
        split at h
        · rename_i r hr
          obtain ⟨hr1, hr2⟩ := look_some hr
          split at h
          · rename_i hc
            obtain ⟨hfr, hoff, ho⟩ := hc
            cases h
            have hlen : (List.replicate n z1).flatten.length = n * i.size := by rw [length_flatten_replicate, hzl]
            have hcl : (Builtin.zeroCells z.cells n).toList.length = n * i.size := by simp [Builtin.zeroCells, hzs]
            have hones : ones (List.replicate n z1).flatten = true := by
              simp only [ones, List.all_eq_true] at ho ⊢
              intro v hv
              obtain ⟨l, hl, hv⟩ := List.mem_flatten.1 hv
              rw [List.eq_of_mem_replicate hl] at hv
              exact ho v hv
            have hrl : ∀ (j : Nat) (v c : Value), (List.replicate n z1).flatten[j]? = some v → (Builtin.zeroCells z.cells n).toList[j]? = some c → VRel P H ι v c := fun j v c hv hc => by
              have hlt := (List.getElem?_eq_some_iff.1 hv).1
              rw [hlen] at hlt
              rw [getElem?_flatten_replicate _ _ _ (by rw [hzl]; exact hlt)] at hv
              rw [flatten_replicate_get _ _ _ (by rw [hzs]; exact hlt), hzs] at hc
              rw [hzl, ← hzz] at hv
              have : v = c := by
                rw [← Array.getElem?_toList] at hc
                rw [hv] at hc; exact Option.some.inj hc
              subst this
              rw [hzz] at hv
              exact .lit (hlit v (List.mem_of_getElem? hv))
            have key : ∀ (l : Loc), ι a.block = some l → ∀ (b : Addr) (cap : Nat), (n = 0 ∨ b = l.at a.off) →
                ∃ c' w' ι', (Builtin.clear_ #[t] ty #[.slice (some b) n cap]).run P w = .ok c' w' ∧
                  VRel P (H.set a.block { r with cells := VM.splice r.cells a.off (List.replicate n z1).flatten }) ι' undef c' ∧
                  Ext H ι (H.set a.block { r with cells := VM.splice r.cells a.off (List.replicate n z1).flatten }) ι' ∧
                  Rel P B w0 frz ι' (H.set a.block { r with cells := VM.splice r.cells a.off (List.replicate n z1).flatten }) w' := by
              intro l hl' b cap hbl
              obtain ⟨w', ι', hst, E, RR⟩ := R.splice hl' hr1 hfr (List.replicate n z1).flatten (Builtin.zeroCells z.cells n).toList a.off (by rw [hlen, hcl]) (by rw [hlen]; omega) hones hrl
              rcases Nat.eq_zero_or_pos n with h0 | h0
              · subst h0
                have hw : w' = w := by
                  simp [storeCells, Builtin.zeroCells] at hst; exact hst.symm
                subst hw
                exact ⟨_, _, _, by simp [Builtin.clear_, run_underlying hu]; rfl, .undef, E, RR⟩
              · rcases hbl with h1 | rfl
                · omega
                · obtain ⟨m, rfl⟩ : ∃ m, n = m + 1 := ⟨n - 1, by omega⟩
                  exact ⟨_, _, _, by simp [Builtin.clear_, run_underlying hu, zeroValue, typeInfo, hi, hz, hst]; rfl, .undef, E, RR⟩
            rcases hs.sl_inv hr with ⟨l, cap, hl', _, _, rfl⟩ | ⟨rfl, ⟨l, hl'⟩, b, rfl⟩
            · exact key l hl' _ _ (.inr rfl)
            · exact key l hl' _ _ (.inl rfl)
          · cases h
        · cases h
      · cases h
    · cases h
  · cases h

theorem alloc_ok (R : Rel P B w0 frz ι H w) (hf0 : frz ≤ H.length) {z : List Value} (h : tzero P t = some z) :
    ∃ c' w' ι', (Instr.alloc t true (.tuple #[])).run P w = .ok c' w' ∧ VRel P (H ++ [⟨z, 0, t⟩]) ι' (newp H) c' ∧ Ext H ι (H ++ [⟨z, 0, t⟩]) ι' ∧ Rel P B w0 frz ι' (H ++ [⟨z, 0, t⟩]) w' := by
  obtain ⟨i, z', hi, hz, hzz, hlit⟩ := tzero_spec h
  obtain ⟨RR, EE⟩ := R.alloc hf0 z z'.cells t (by rw [← hzz]; simp) (fun j v hj => ⟨v, by rw [← hzz] at hj; simpa using hj, .lit (hlit v (List.mem_of_getElem? hj))⟩)
  refine ⟨.pointer (some ⟨w.heap.size, 0, none⟩), _, _, by simp [Instr.alloc, zeroValue, typeInfo, hi, hz, newVar, newRow], ?_, EE, RR⟩
  have := VRel.ptr (P := P) (H := H ++ [⟨z, 0, t⟩]) (ι := ι.at H.length ⟨w.heap.size, 0, z'.cells.size⟩) (a := ⟨H.length, 0, some 0⟩) (r := ⟨z, 0, t⟩) (l := ⟨w.heap.size, 0, z'.cells.size⟩) (by simp) rfl (by simp [Inj.at])
  simpa [newp, Loc.at] using this

theorem box_ok (R : Rel P B w0 frz ι H w) (hf0 : frz ≤ H.length) (hx : VRel P H ι x c) (h : ones x.cells.toList = true) :
    ∃ c' w' ι', (Instr.box t c).run P w = .ok c' w' ∧ VRel P (H ++ [⟨x.cells.toList, 0, t⟩]) ι' (newp H) c' ∧ Ext H ι (H ++ [⟨x.cells.toList, 0, t⟩]) ι' ∧ Rel P B w0 frz ι' (H ++ [⟨x.cells.toList, 0, t⟩]) w' := by
  have hb : x ≠ .map none := fun e => by subst e; simp [Value.cells, ones, one] at h
  obtain ⟨e1, e2⟩ := hx.cells hb
  obtain ⟨RR, EE⟩ := R.alloc hf0 x.cells.toList c.cells t (by simp [e1]) (fun j v hj => by
    have hlt : j < c.cells.size := by have := (List.getElem?_eq_some_iff.1 hj).1; simp at this; omega
    exact ⟨c.cells[j], Array.getElem?_eq_getElem hlt, e2 j v _ (by simpa using hj) (Array.getElem?_eq_getElem hlt)⟩)
  refine ⟨.pointer (some ⟨w.heap.size, 0, none⟩), _, _, by simp [Instr.box, newVar, newRow], ?_, EE, RR⟩
  have := VRel.ptr (P := P) (H := H ++ [⟨x.cells.toList, 0, t⟩]) (ι := ι.at H.length ⟨w.heap.size, 0, c.cells.size⟩) (a := ⟨H.length, 0, some 0⟩) (r := ⟨x.cells.toList, 0, t⟩) (l := ⟨w.heap.size, 0, c.cells.size⟩) (by simp) rfl (by simp [Inj.at])
  simpa [newp, Loc.at] using this

theorem finfo_spec {f o n : Nat} {ag : Bool} (h : finfo P t f = some (o, ag, n)) : ∃ fs fd, P.underlying t = some (.struct fs) ∧ fs[f]? = some fd ∧ fd.offset = o ∧ tsz P fd.type = some (ag, n) ∧ n ≠ 0 := by
  unfold finfo at h
  split at h
  · rename_i fs hu
    split at h
    · rename_i fd hf
      split at h
      · rename_i ag' n' hz
        split at h
        · cases h
        · cases h; exact ⟨fs, fd, hu, hf, rfl, hz, by assumption⟩
      · cases h
    · cases h
  · cases h
theorem run_sizeOf {n : Nat} (h : (P.info? t).map (·.size) = some n) (w : World) : (sizeOf t).run P w = .ok n w := by
  cases hi : P.info? t with
  | none => simp [hi] at h
  | some i => simp [hi] at h; simp [sizeOf, typeInfo, hi, h]

theorem fieldAddr_ok {f : Nat} (hx : VRel P H ι x c) (h : vfieldAddr P H t f x = some v) : ∃ c', (Instr.fieldAt t c f).run P w = .ok c' w ∧ VRel P H ι v c' := by
  unfold vfieldAddr at h
  split at h
  · rename_i a
    split at h
    · rename_i r hr
      split at h
      · rename_i o ag n hf
        cases h
        obtain ⟨l, hl, rfl⟩ := hx.ptr_inv hr
        obtain ⟨fs, fd, hu, hfd, ho, hz, hn⟩ := finfo_spec hf
        obtain ⟨h1, h2⟩ := look_some hr
        refine ⟨.pointer (some (l.at (a.off + o))), ?_, ?_⟩
        · simp [Instr.fieldAt, run_underlying hu, hfd, Instr.sureAddr, fieldPlace, run_sizeOf (tsz_size hz), hn, Loc.at_add, ho]
        · exact .ptr (a := ⟨a.block, a.off + o, a.spot⟩) h1 h2 hl
      · cases h
    · cases h
  · cases h

theorem part_ok {ag : Bool} {n o : Nat} {cs cs' : Array Value} (hz : tsz P t = some (ag, n)) (hs : cs.size = cs'.size) (hrel : ∀ (i : Nat) (x y : Value), cs[i]? = some x → cs'[i]? = some y → VRel P H ι x y)
    (h : part' ag n o cs.toList = some v) : ∃ c', (part t cs' o).run P w = .ok c' w ∧ VRel P H ι v c' := by
  unfold part' at h
  cases ag with
  | true =>
    simp only [if_true] at h
    cases h
    obtain ⟨⟨d, hu, hd⟩, hsz⟩ := tsz_true hz
    have hagg : (isAgg t).run P w = .ok true w := by
      unfold isAgg
      rw [Sem.run_bind, run_underlying hu w]
      cases d <;> simp_all
    refine ⟨.agg (cs'.extract o (o + n)), by simp [part, hagg, run_sizeOf hsz], .agg (by simp; omega) fun i x y hx hy => ?_⟩
    rw [List.getElem?_toArray, List.getElem?_take] at hx
    rw [Array.getElem?_extract] at hy
    split at hx
    · split at hy
      · rw [List.getElem?_drop] at hx
        exact hrel (o + i) x y (by simpa using hx) hy
      · cases hy
    · cases hx
  | false =>
    simp only [Bool.false_eq_true, if_false] at h
    obtain ⟨⟨d, hu, hd⟩, hsz⟩ := tsz_false hz
    have hlt : o < cs'.size := by have := (List.getElem?_eq_some_iff.1 h).1; simp at this; omega
    refine ⟨cs'[o], by simp [part, run_isAgg_false hu hd w, hlt], hrel o v _ (by simpa using h) (Array.getElem?_eq_getElem hlt)⟩

theorem agg_inv {cs : Array Value} (h : VRel P H ι (.agg cs) c) : ∃ cs', c = .agg cs' ∧ cs.size = cs'.size ∧ ∀ (i : Nat) (x y : Value), cs[i]? = some x → cs'[i]? = some y → VRel P H ι x y := by
  cases h with | agg hc h => exact ⟨_, rfl, hc, h⟩
theorem field_ok {f : Nat} (hx : VRel P H ι x c) (h : vfield P t f x = some v) : ∃ c', (Instr.field t c f).run P w = .ok c' w ∧ VRel P H ι v c' := by
  unfold vfield at h
  split at h
  · rename_i cs
    obtain ⟨cs', rfl, hs, hrel⟩ := agg_inv hx
    split at h
    · rename_i o ag n hf
      obtain ⟨fs, fd, hu, hfd, ho, hz, hn⟩ := finfo_spec hf
      obtain ⟨c', h1, h2⟩ := part_ok (w := w) (o := o) hz hs hrel h
      exact ⟨c', by simp [Instr.field, run_underlying hu, hfd, asAgg, ho, h1], h2⟩
    · cases h
  · cases h

theorem indexAddr_ok (hx : VRel P H ι x c) (hy : VRel P H ι y d) (h : vindexAddr P H t x y = some v) : ∃ c', (Instr.indexAt t c d).run P w = .ok c' w ∧ VRel P H ι v c' := by
  unfold vindexAddr at h
  split at h
  · rename_i a len k kk i
    cases hy
    split at h
    · rename_i r hr
      split at h
      · rename_i e n he
        split at h
        · rename_i hi
          cases h
          obtain ⟨hu, j, z, hj, hsz, hp, hb, hz, hzs⟩ := eltp_spec he
          obtain ⟨h1, h2⟩ := look_some hr
          rcases hx.sl_inv hr with ⟨l, cap, hl, _, _, rfl⟩ | ⟨rfl, _⟩
          · refine ⟨.pointer (some (l.at (a.off + i.toNat * n))), ?_, .ptr (a := ⟨a.block, a.off + i.toNat * n, a.spot⟩) h1 h2 hl⟩
            simp [Instr.indexAt, asIntOf, run_underlying hu, hi, run_sizeOf (by rw [hj]; simp; exact hsz : (P.info? e).map (·.size) = some n), Loc.at_add]
          · omega
        · cases h
      · cases h
    · cases h
  · rename_i a kk i
    cases hy
    split at h
    · rename_i r hr
      split at h
      · rename_i n k he
        split at h
        · rename_i hi
          cases h
          unfold arrp at he
          split at he
          · rename_i n' e hu
            cases hz : P.info? e with
            | none => rw [hz] at he; cases he
            | some z =>
              rw [hz] at he
              simp at he
              obtain ⟨rfl, rfl⟩ := he
              obtain ⟨l, hl, rfl⟩ := hx.ptr_inv hr
              obtain ⟨h1, h2⟩ := look_some hr
              refine ⟨.pointer (some (l.at (a.off + i.toNat * z.size))), ?_, .ptr (a := ⟨a.block, a.off + i.toNat * z.size, a.spot⟩) h1 h2 hl⟩
              simp [Instr.indexAt, asIntOf, run_underlying hu, hi, Instr.sureAddr, run_sizeOf (by rw [hz]; rfl : (P.info? e).map (·.size) = some z.size), Loc.at_add]
          · cases he
        · cases h
      · cases h
    · cases h
  · rename_i g kk o kk2 i
    cases hy
    split at h
    · rename_i n k he
      split at h
      · rename_i hi
        cases h
        unfold arrp at he
        split at he
        · rename_i n' e hu
          cases hz : P.info? e with
          | none => rw [hz] at he; cases he
          | some z =>
            rw [hz] at he
            simp at he
            obtain ⟨rfl, rfl⟩ := he
            cases hx with
            | glob =>
              rename_i o'
              have e1 : ((o' : Int) + i * z.size) = ((o' + i.toNat * z.size : Nat) : Int) := by
                have : (i.toNat : Int) = i := Int.toNat_of_nonneg hi.2.1
                rw [Int.natCast_add, Int.natCast_mul, this]
              rw [e1]
              refine ⟨_, ?_, .glob⟩
              simp [Instr.indexAt, asIntOf, run_underlying hu, hi, Instr.sureAddr, run_sizeOf (by rw [hz]; rfl : (P.info? e).map (·.size) = some z.size), Addr.add]
        · cases he
      · cases h
    · cases h
  · cases h

theorem isStr_spec (h : isStr P t = true) : P.underlying t = some .string := by
  unfold isStr at h; split at h; assumption; cases h
theorem index_ok (hx : VRel P H ι x c) (hy : VRel P H ι y d) (h : vindex P t x y = some v) : ∃ c', (Instr.index t c d).run P w = .ok c' w ∧ VRel P H ι v c' := by
  unfold vindex at h
  split at h
  · rename_i s k i
    cases hx; cases hy
    split at h
    · rename_i hu
      split at h
      · rename_i hi
        split at h
        · rename_i b hb
          cases h
          exact ⟨_, by simp [Instr.index, asIntOf, run_underlying hu, hi, hb], .int _ _⟩
        · cases h
      · cases h
    · cases h
  · rename_i cs k i
    cases hy
    obtain ⟨cs', rfl, hs, hrel⟩ := agg_inv hx
    split at h
    · rename_i n e hu
      split at h
      · rename_i ag m hz
        split at h
        · rename_i hi
          obtain ⟨c', h1, h2⟩ := part_ok (w := w) (o := i.toNat * m) hz hs hrel h
          exact ⟨c', by simp [Instr.index, asIntOf, run_underlying hu, hi, run_sizeOf (tsz_size hz), h1], h2⟩
        · cases h
      · cases h
    · cases h
  · cases h
theorem len_ok {ty : TypeId} {ts : Array TypeId} {cs : Array Value} (ht : ts[0]? = some t) (hc : cs[0]? = some c) (hx : VRel P H ι x c) (h : vlen P H t x = some v) : ∃ c', (Builtin.len_ ts ty cs).run P w = .ok c' w ∧ VRel P H ι v c' := by
  unfold vlen at h
  split at h
  · cases hx
    split at h
    · rename_i hu; cases h; exact ⟨_, by simp [Builtin.len_, ht, hc, run_underlying (isStr_spec hu), goInt], .int _ _⟩
    · cases h
  · split at h
    · rename_i hu; obtain ⟨e, hu⟩ := isSl_spec hu; cases h
      cases hx with
      | nilSl => exact ⟨_, by simp [Builtin.len_, ht, hc, run_underlying hu, goInt], .int _ _⟩
      | noSl => exact ⟨_, by simp [Builtin.len_, ht, hc, run_underlying hu, goInt], .int _ _⟩
    · cases h
  · split at h
    · rename_i r hr
      split at h
      · rename_i hu; obtain ⟨e, hu⟩ := isSl_spec hu; cases h
        rcases hx.sl_inv hr with ⟨l, cap, hl, _, _, rfl⟩ | ⟨rfl, _, b, rfl⟩
        · exact ⟨_, by simp [Builtin.len_, ht, hc, run_underlying hu, goInt], .int _ _⟩
        · exact ⟨_, by simp [Builtin.len_, ht, hc, run_underlying hu, goInt], .int _ _⟩
      · cases h
    · cases h
  · cases h
theorem cap_ok {ty : TypeId} {ts : Array TypeId} {cs : Array Value} (ht : ts[0]? = some t) (hc : cs[0]? = some c) (hx : VRel P H ι x c) (h : vcap P t x = some v) : ∃ c', (Builtin.cap_ ts ty cs).run P w = .ok c' w ∧ VRel P H ι v c' := by
  unfold vcap at h
  split at h
  · split at h
    · rename_i hu; obtain ⟨e, hu⟩ := isSl_spec hu; cases h
      cases hx with
      | nilSl => exact ⟨_, by simp [Builtin.cap_, ht, hc, run_underlying hu, goInt], .int _ _⟩
      | noSl => exact ⟨_, by simp [Builtin.cap_, ht, hc, run_underlying hu, goInt], .int _ _⟩
    · cases h
  · cases h
end Go.VM
/-! Slices of slices, numbers, composites. -/
set_option linter.all false
namespace Go.VM
open Go Go.RowKit
variable {P : Program} {H H' : Heap} {ι ι' : Inj} {v c x y d s : Value} {B frz : Nat} {w0 w w' : World} {t : TypeId}

/-- an optional operand -/
def ORel (P : Program) (H : Heap) (ι : Inj) : Option Value → Option Value → Prop
  | none, none => True
  | some x, some c => VRel P H ι x c
  | _, _ => False
theorem bounds_ok (isSlice : Bool) {len cap : Nat} {lo hi lo' hi' : Option Value} {l h : Int} (h1 : ORel P H ι lo lo') (h2 : ORel P H ι hi hi')
    (hl : vbound 0 lo = some l) (hh : vbound len hi = some h) (g0 : 0 ≤ l) (g1 : l ≤ h) (g2 : h ≤ len) (g3 : len ≤ cap) :
    (Instr.sliceBounds isSlice len cap lo' hi' none).run P w = .ok (l.toNat, h.toNat, cap) w := by
  have e2 : ∀ k code, (Instr.sliceBound (.int k h) cap code).run P w = .ok h.toNat w := fun k code => run_sliceBound (P := P) (w := w) k h cap code (by omega) (by omega)
  have e1 : ∀ k code, (Instr.sliceBound (.int k l) h.toNat code).run P w = .ok l.toNat w := fun k code => run_sliceBound (P := P) (w := w) k l h.toNat code (by omega) (by omega)
  have hi0 : (hi' = none ∧ h = len) ∨ ∃ k, hi' = some (.int k h) := by
    cases hi with
    | none => cases hi' with | none => simp [vbound] at hh; exact .inl ⟨rfl, hh.symm⟩ | some => exact h2.elim
    | some v => cases hi' with
      | none => exact h2.elim
      | some c =>
        cases v with
        | int k n => simp [vbound] at hh; subst hh; cases h2; exact .inr ⟨k, rfl⟩
        | _ => simp [vbound] at hh
  have lo0 : (lo' = none ∧ l = 0) ∨ ∃ k, lo' = some (.int k l) := by
    cases lo with
    | none => cases lo' with | none => simp [vbound] at hl; exact .inl ⟨rfl, hl.symm⟩ | some => exact h1.elim
    | some v => cases lo' with
      | none => exact h1.elim
      | some c =>
        cases v with
        | int k n => simp [vbound] at hl; subst hl; cases h1; exact .inr ⟨k, rfl⟩
        | _ => simp [vbound] at hl
  rcases hi0 with ⟨rfl, rfl⟩ | ⟨k, rfl⟩ <;> rcases lo0 with ⟨rfl, rfl⟩ | ⟨k', rfl⟩
  · simp [Instr.sliceBounds]
  · simp only [Int.toNat_natCast] at e1
    simp [Instr.sliceBounds, e1]
  · simp [Instr.sliceBounds, e2]
  · simp [Instr.sliceBounds, e1, e2]

theorem slice_ok {lo hi lo' hi' : Option Value} (hx : VRel P H ι x c) (h1 : ORel P H ι lo lo') (h2 : ORel P H ι hi hi') (h : vslice P H t lo hi x = some v) :
    ∃ c', (Instr.sliceAt t c lo' hi' none).run P w = .ok c' w ∧ VRel P H ι v c' := by
  unfold vslice at h
  split at h
  · split at h
    · rename_i p he hl hh
      obtain ⟨e, n⟩ := p
      cases h
      obtain ⟨hu, i, z, hi, hsz, hp, hb, hz, hzs⟩ := eltp_spec he
      have hbd := bounds_ok (P := P) (w := w) true (len := 0) (cap := 0) h1 h2 hl hh (by omega) (by omega) (by omega) (by omega)
      cases hx with
      | nilSl => exact ⟨_, by simp [Instr.sliceAt, Instr.slice, run_underlying hu, hbd, run_sizeOf (by rw [hi]; simp; exact hsz : (P.info? e).map (·.size) = some n)], .nilSl⟩
      | noSl => exact ⟨_, by simp [Instr.sliceAt, Instr.slice, run_underlying hu, hbd, run_sizeOf (by rw [hi]; simp; exact hsz : (P.info? e).map (·.size) = some n)]; rfl, .noSl⟩
    · cases h
  · rename_i a len k
    split at h
    · rename_i r hr
      split at h
      · rename_i e n l hh0 he hl hh
        split at h
        · rename_i hc
          obtain ⟨hk0, hre, g0, g1, g2⟩ := hc
          cases h
          obtain ⟨hu, i, z, hi, hsz, hp, hb, hz, hzs⟩ := eltp_spec he
          obtain ⟨r1, r2⟩ := look_some hr
          have hs := run_sizeOf (P := P) (by rw [hi]; simp; exact hsz : (P.info? e).map (·.size) = some n) w
          rcases hx.sl_inv hr with ⟨loc, cap, hloc, hle, hcap, rfl⟩ | ⟨rfl, ⟨loc, hloc⟩, b, rfl⟩
          · have hbd := bounds_ok (P := P) (w := w) true h1 h2 hl hh g0 g1 g2 hle
            by_cases hm : cap = l.toNat
            · have hbd' := hbd
              rw [hm] at hbd'
              refine ⟨.slice (some (loc.at a.off)) (hh0.toNat - l.toNat) (cap - l.toNat), by simp [Instr.sliceAt, Instr.slice, run_underlying hu, hbd', hs, hm], ?_⟩
              have e1 : hh0.toNat - l.toNat = 0 := by omega
              have e2 : cap - l.toNat = 0 := by omega
              rw [e1, e2]
              exact .slZero (a := ⟨a.block, a.off + l.toNat * n, a.spot⟩) r1 r2 hloc
            · refine ⟨.slice (some (loc.at (a.off + l.toNat * n))) (hh0.toNat - l.toNat) (cap - l.toNat), by simp [Instr.sliceAt, Instr.slice, run_underlying hu, hbd, hs, hm, Loc.at_add], ?_⟩
              refine .sl (a := ⟨a.block, a.off + l.toNat * n, a.spot⟩) r1 r2 hloc (by omega) (fun _ => ?_)
              have hcap := hcap hk0
              have hcn : P.cellsOf r.elem = n := by rw [hre, cellsOf_of hi]; exact hsz
              rw [hcn] at hcap ⊢
              have : l.toNat * n + (cap - l.toNat) * n = cap * n := by rw [← Nat.add_mul]; congr 1; omega
              simp only []
              omega
          · have hbd := bounds_ok (P := P) (w := w) (cap := 0) true h1 h2 hl hh g0 g1 g2 (by omega)
            have e0 : l.toNat = 0 := by omega
            have e1 : hh0.toNat = 0 := by omega
            refine ⟨.slice (some b) 0 0, by simp [Instr.sliceAt, Instr.slice, run_underlying hu, hbd, hs, e0, e1], ?_⟩
            rw [e1, Nat.zero_sub]
            exact .slZero (a := ⟨a.block, a.off + l.toNat * n, a.spot⟩) r1 r2 hloc
        · cases h
      · cases h
    · cases h
  · rename_i a
    split at h
    · rename_i r hr
      split at h
      · rename_i n k he
        split at h
        · rename_i l hh0 hl hh
          split at h
          · rename_i hc
            obtain ⟨g0, g1, g2⟩ := hc
            cases h
            unfold arrp at he
            split at he
            · rename_i n' e hu
              cases hz : P.info? e with
              | none => rw [hz] at he; cases he
              | some z =>
                rw [hz] at he
                simp at he
                obtain ⟨rfl, rfl⟩ := he
                obtain ⟨loc, hloc, rfl⟩ := hx.ptr_inv hr
                obtain ⟨r1, r2⟩ := look_some hr
                have hs := run_sizeOf (P := P) (by rw [hz]; rfl : (P.info? e).map (·.size) = some z.size) w
                have hbd := bounds_ok (P := P) (w := w) (cap := n') false h1 h2 hl hh g0 g1 g2 (Nat.le_refl _)
                by_cases hm : n' = l.toNat
                · refine ⟨.slice (some (loc.at a.off)) (hh0.toNat - l.toNat) (n' - l.toNat), by simp [Instr.sliceAt, run_underlying hu, Instr.sureAddr, hbd, hs, ← hm], ?_⟩
                  have e1 : hh0.toNat - l.toNat = 0 := by omega
                  have e2 : n' - l.toNat = 0 := by omega
                  rw [e1, e2]
                  exact .slZero (a := ⟨a.block, a.off + l.toNat * z.size, a.spot⟩) r1 r2 hloc
                · refine ⟨.slice (some (loc.at (a.off + l.toNat * z.size))) (hh0.toNat - l.toNat) (n' - l.toNat), by simp [Instr.sliceAt, run_underlying hu, Instr.sureAddr, hbd, hs, hm, Loc.at_add], ?_⟩
                  exact .sl (a := ⟨a.block, a.off + l.toNat * z.size, a.spot⟩) r1 r2 hloc (by omega) (fun h => by cases h)
            · cases he
          · cases h
        · cases h
      · cases h
    · cases h
  · rename_i s
    split at h
    · rename_i l hh0 hl hh
      split at h
      · rename_i hc
        obtain ⟨hu, g0, g1, g2⟩ := hc
        cases hx; cases h
        have hbd := bounds_ok (P := P) (w := w) (len := s.size) (cap := s.size) false h1 h2 hl hh g0 g1 g2 (Nat.le_refl _)
        exact ⟨_, by simp [Instr.sliceAt, Instr.slice, run_underlying (isStr_spec hu), hbd], .str _⟩
      · cases h
    · cases h
  · cases h

theorem bin_int {op : BinOp} {k k' : IntKind} {a b : Int} (h : vbin P op t (.int k a) (.int k' b) = some v) :
    (binOp op t (.int k a) (.int k' b)).run P w = .ok v w ∧ VRel P H ι v v := by
  cases op
  case shl =>
    simp [vbin, ishift] at h
    obtain ⟨_, ⟨hb, rfl⟩, rfl⟩ := h
    exact ⟨by rw [binOp, Op.shift, if_neg (by omega)]; rfl, .int _ _⟩
  case shr =>
    simp [vbin, ishift] at h
    obtain ⟨_, ⟨hb, rfl⟩, rfl⟩ := h
    exact ⟨by rw [binOp, Op.shift, if_neg (by omega)]; rfl, .int _ _⟩
  case quo =>
    simp [vbin, iarith] at h
    obtain ⟨rfl, _, ⟨hb, rfl⟩, rfl⟩ := h
    exact ⟨by simp [binOp, Op.intDiv, hb], .int _ _⟩
  case rem =>
    simp [vbin, iarith] at h
    obtain ⟨rfl, _, ⟨hb, rfl⟩, rfl⟩ := h
    exact ⟨by simp [binOp, Op.intDiv, hb], .int _ _⟩
  case eql => simp [vbin, icmp] at h; obtain ⟨rfl, rfl⟩ := h; exact ⟨by simp [binOp, Op.intCmp]; rfl, .bool _⟩
  case neq => simp [vbin, icmp] at h; obtain ⟨rfl, rfl⟩ := h; exact ⟨by simp [binOp, Op.intCmp]; rfl, .bool _⟩
  case lss => simp [vbin, icmp] at h; obtain ⟨rfl, rfl⟩ := h; exact ⟨by simp [binOp, Op.intCmp], .bool _⟩
  case leq => simp [vbin, icmp] at h; obtain ⟨rfl, rfl⟩ := h; exact ⟨by simp [binOp, Op.intCmp], .bool _⟩
  case gtr => simp [vbin, icmp] at h; obtain ⟨rfl, rfl⟩ := h; exact ⟨by simp [binOp, Op.intCmp], .bool _⟩
  case geq => simp [vbin, icmp] at h; obtain ⟨rfl, rfl⟩ := h; exact ⟨by simp [binOp, Op.intCmp], .bool _⟩
  all_goals
    simp [vbin, iarith] at h
    obtain ⟨rfl, rfl⟩ := h
    exact ⟨by simp [binOp, Op.intArith, Op.intBits], .int _ _⟩

theorem equal_bool {a b : Bool} (hu : P.underlying t = some .bool) : (Op.equal t (.bool a) (.bool b)).run P w = .ok (a == b) w := by
  show (Op.equalIn (9999 + 1) t (.bool a) (.bool b)).run P w = _
  rw [Op.equalIn, Sem.run_bind, run_underlying hu]
  rfl

theorem ceq_ok {e : Nat} {f : TypeId} {k : Nat} {b : Bool} {c' : Value} (hf : scalK P f = some k) (hx : VRel P H ι x c) (hy : VRel P H ι y c') (h : ceq k x y = some b) :
    (Op.equalIn (e + 1) f c c').run P w = .ok b w := by
  unfold scalK at hf
  unfold ceq at h
  split at h
  · split at hf <;> cases hf
    rename_i hu
    split at h
    · rename_i hkk; subst hkk
      cases hx; cases hy; cases h
      exact run_equalIn_int w e f _ _ _ _ hu
    · cases h
  · split at hf <;> cases hf
    rename_i hu
    cases hx; cases hy; cases h
    exact run_equalIn_bool' w e f _ _ hu
  · split at hf <;> cases hf
    rename_i hu
    cases hx; cases hy; cases h
    exact run_equalIn_string w e f _ _ hu
  · cases h
theorem eqFields_ok {e : Nat} {xs ys cx cy : Array Value} (hsx : xs.size = cx.size) (hsy : ys.size = cy.size) (hx : ∀ (i : Nat) (x y : Value), xs[i]? = some x → cx[i]? = some y → VRel P H ι x y) (hy : ∀ (i : Nat) (x y : Value), ys[i]? = some x → cy[i]? = some y → VRel P H ι x y) :
    ∀ (fs : List Field) (o : Nat) (ks : List Nat) (b : Bool), flatFs P fs o = some ks → cseq ks (xs.toList.drop o) (ys.toList.drop o) = some b → (Op.eqFields (e + 1) cx cy fs).run P w = .ok b w
  | [], o, ks, b, hf, h => by
    cases hf
    unfold cseq at h
    split at h
    · cases h; rfl
    · rename_i h1 _ _; cases h1
    · cases h
  | f :: fs, o, ks, b, hf, h => by
    simp only [flatFs] at hf
    split at hf
    · rename_i hc
      obtain ⟨hn, hz, rfl⟩ := hc
      split at hf
      · rename_i k l hk hl
        cases hf
        unfold cseq at h
        split at h
        · rename_i h1 _ _; cases h1
        · rename_i k' ks' x xr y yr hkk hxl hyl
          cases hkk
          split at h
          · rename_i a b' ha hb
            cases h
            have ex : xs.toList[f.offset]? = some x := by
              have := congrArg (·[0]?) hxl; simpa using this
            have ey : ys.toList[f.offset]? = some y := by
              have := congrArg (·[0]?) hyl; simpa using this
            obtain ⟨c1, p1, p2⟩ := part_ok (w := w) (t := f.type) (o := f.offset) hz hsx hx (v := x) (by simpa [part'] using ex)
            obtain ⟨c2, p3, p4⟩ := part_ok (w := w) (t := f.type) (o := f.offset) hz hsy hy (v := y) (by simpa [part'] using ey)
            have hq := ceq_ok (w := w) (e := e) hk p2 p4 ha
            have ih := eqFields_ok (e := e) hsx hsy hx hy fs (f.offset + 1) l b' hl (by
              have e1 : xs.toList.drop (f.offset + 1) = xr := by rw [← List.drop_drop, hxl]; rfl
              have e2 : ys.toList.drop (f.offset + 1) = yr := by rw [← List.drop_drop, hyl]; rfl
              rw [e1, e2]; exact hb)
            simp only [Op.eqFields, if_pos hn, Sem.run_bind, p1, Result.andThen_ok, p3, hq]
            cases a with
            | true => simpa using ih
            | false => simp
          · cases h
        · cases h
      · cases hf
    · cases hf
theorem agg_eq {xs ys cx cy : Array Value} {ks : List Nat} {b : Bool} (hn : flatN P t = some ks) (hsx : xs.size = cx.size) (hsy : ys.size = cy.size) (hx : ∀ (i : Nat) (x y : Value), xs[i]? = some x → cx[i]? = some y → VRel P H ι x y) (hy : ∀ (i : Nat) (x y : Value), ys[i]? = some x → cy[i]? = some y → VRel P H ι x y)
    (h : cseq ks xs.toList ys.toList = some b) : (Op.equalIn 10000 t (.agg cx) (.agg cy)).run P w = .ok b w ∧ P.eqGuardType P.depth t = false := by
  unfold flatN at hn
  split at hn
  · rename_i fs hu
    split at hn
    · rename_i hc
      have hfo : P.fieldsOf t = fs := by simp [Program.fieldsOf, hu]
      refine ⟨?_, hc.1⟩
      rw [run_equalIn_struct w 9999 t cx cy (by rw [hfo]; exact hu) hc.2, hfo]
      exact eqFields_ok (e := 9998) hsx hsy hx hy fs.toList 0 ks b hn (by simpa using h)
    · cases hn
  · cases hn

theorem bin_ok {op : BinOp} (hx : VRel P H ι x c) (hy : VRel P H ι y d) (h : vbin P op t x y = some v) : ∃ c', (binOp op t c d).run P w = .ok c' w ∧ VRel P H ι v c' := by
  by_cases hint : (∃ k a k' b, x = .int k a ∧ y = .int k' b)
  · obtain ⟨k, a, k', b, rfl, rfl⟩ := hint
    cases hx; cases hy
    exact ⟨v, bin_int h⟩
  unfold vbin at h
  split at h
  · exact absurd ⟨_, _, _, _, rfl, rfl⟩ hint
  · cases hx; cases hy
    split at h
    · rename_i hu; cases h
      exact ⟨_, by simp only [binOp, Sem.run_bind, equal_bool hu, Result.andThen_ok]; rfl, .bool _⟩
    · rename_i a b _ _ hu; cases h
      refine ⟨.bool (!(a == b)), by simp only [binOp, Sem.run_bind, equal_bool hu, Result.andThen_ok]; rfl, ?_⟩
      exact .bool _
    · cases h
  · cases hx; cases hy
    split at h
    · cases h; exact ⟨_, by simp [binOp, Op.stringOp], .bool _⟩
    · cases h; exact ⟨_, by simp [binOp, Op.stringOp], .bool _⟩
    · rename_i a b _
      split at h
      · rename_i hsz
        cases h
        have hno : ¬ (IntKind.i64.max < ((a.size + b.size : Nat) : Int)) := by
          have : IntKind.i64.max = 9223372036854775807 := by decide
          omega
        refine ⟨_, ?_, .str _⟩
        simp only [binOp, Op.stringOp]
        rw [if_neg hno]; rfl
      · cases h
    · cases h; exact ⟨_, by simp [binOp, Op.stringOp], .bool _⟩
    · cases h
  · cases hx with
    | agg hsx hx => cases hy with
      | agg hsy hy =>
        split at h
        · rename_i ks hn
          rw [Option.map_eq_some_iff] at h
          obtain ⟨b, hb, rfl⟩ := h
          exact ⟨.bool b, by rw [run_eql_struct, (agg_eq (w := w) hn hsx hsy hx hy hb).1]; rfl, .bool _⟩
        · rename_i ks hn
          rw [Option.map_eq_some_iff] at h
          obtain ⟨b, hb, rfl⟩ := h
          exact ⟨.bool (!b), by rw [run_neq_struct, (agg_eq (w := w) hn hsx hsy hx hy hb).1]; rfl, .bool _⟩
        · cases h
  · cases h
theorem equal_nil {a : Addr} {n k : Nat} {e : TypeId} (hu : P.underlying t = some (.slice e)) : (Op.equal t (.slice (some a) n k) (.slice none 0 0)).run P w = .ok false w := by
  show (Op.equalIn (9999 + 1) t _ _).run P w = _
  rw [Op.equalIn, Sem.run_bind, run_underlying hu]
  rfl
theorem equal_nil0 {e : TypeId} (hu : P.underlying t = some (.slice e)) : (Op.equal t (.slice none 0 0) (.slice none 0 0)).run P w = .ok true w := by
  show (Op.equalIn (9999 + 1) t _ _).run P w = _
  rw [Op.equalIn, Sem.run_bind, run_underlying hu]
  rfl
theorem nilq_ok {op : BinOp} (hx : VRel P H ι x c) (h : vnilq P H op t x = some v) : (∃ c', (binOp op t c (.slice none 0 0)).run P w = .ok c' w ∧ VRel P H ι v c') ∧ ∃ b n k, c = .slice b n k := by
  unfold vnilq at h
  split at h
  · rename_i a n k
    split at h
    · rename_i r e hr hu
      cases h
      rcases hx.sl_inv hr with ⟨l, cap, _, _, _, rfl⟩ | ⟨_, _, b, rfl⟩
      · exact ⟨⟨_, by simp only [binOp, Sem.run_bind, equal_nil hu, Result.andThen_ok]; rfl, .bool _⟩, _, _, _, rfl⟩
      · exact ⟨⟨_, by simp only [binOp, Sem.run_bind, equal_nil hu, Result.andThen_ok]; rfl, .bool _⟩, _, _, _, rfl⟩
    · rename_i r e hr hu
      cases h
      rcases hx.sl_inv hr with ⟨l, cap, _, _, _, rfl⟩ | ⟨_, _, b, rfl⟩
      · exact ⟨⟨.bool true, by simp only [binOp, Sem.run_bind, equal_nil hu, Result.andThen_ok]; rfl, .bool _⟩, _, _, _, rfl⟩
      · exact ⟨⟨.bool true, by simp only [binOp, Sem.run_bind, equal_nil hu, Result.andThen_ok]; rfl, .bool _⟩, _, _, _, rfl⟩
    · cases h
  · cases hx
    split at h
    · rename_i e hu
      cases h
      exact ⟨⟨_, by simp only [binOp, Sem.run_bind, equal_nil0 hu, Result.andThen_ok]; rfl, .bool _⟩, _, _, _, rfl⟩
    · rename_i e hu
      cases h
      exact ⟨⟨.bool false, by simp only [binOp, Sem.run_bind, equal_nil0 hu, Result.andThen_ok]; rfl, .bool _⟩, _, _, _, rfl⟩
    · cases h
  · cases h
theorem isNilC_eq {y : Operand} (h : isNilC y = true) : y = .const (.slice none 0 0) := by
  unfold isNilC at h
  split at h
  · rfl
  · cases h
theorem flatN_guard {ks : List Nat} (hn : flatN P t = some ks) : P.eqGuardType P.depth t = false := by
  unfold flatN at hn
  split at hn
  · split at hn
    · rename_i hc; exact hc.1
    · cases hn
  · cases hn
theorem un_ok {op : UnOp} (hx : VRel P H ι x c) (h : vun op x = some v) : ∃ c', (Op.unary op c).run P w = .ok c' w ∧ VRel P H ι v c' := by
  unfold vun at h
  split at h
  · cases hx
    split at h
    · cases h; exact ⟨_, by simp [Op.unary], .bool _⟩
    · cases h
  · cases hx
    split at h
    · cases h; exact ⟨_, by simp [Op.unary, Op.intArith], .int _ _⟩
    · cases h
  · cases h
theorem convert_ok {src dst : TypeId} {ds : TypeDesc} (hsrc : P.underlying src = some ds) (hx : VRel P H ι x c) (h : vconvert P dst x = some v) : ∃ c', (convert src dst c).run P w = .ok c' w ∧ VRel P H ι v c' := by
  unfold vconvert at h
  split at h
  · cases hx
    split at h
    · rename_i hu; cases h; exact ⟨_, by simp [convert, run_underlying hsrc, run_underlying hu, Conv.intToInt], .int _ _⟩
    · cases h
  · cases hx
    split at h
    · rename_i hu; cases h; exact ⟨_, by simp [convert, run_underlying hsrc, run_underlying hu], .str _⟩
    · cases h
  · cases h
theorem byteNs_map : ∀ {cs : List Value} {ns : List Int}, byteNs cs = some ns → cs = ns.map (.int .u8)
  | [], ns, h => by simp [byteNs] at h; subst h; rfl
  | x :: r, ns, h => by
    unfold byteNs at h
    split at h
    · rename_i e; cases e
    · rename_i n r' e
      cases e
      cases hq : byteNs r with
      | none => rw [hq] at h; cases h
      | some q => rw [hq] at h; cases h; rw [byteNs_map hq]; rfl
    · cases h
theorem isU8_spec {e : TypeId} (h : isU8 P e = true) : P.underlying e = some (.int .u8) := by
  unfold isU8 at h; split at h
  · assumption
  · cases h
theorem conv_ok (R : Rel P B w0 frz ι H w) {src dst : TypeId} {ds : TypeDesc} (hsrc : P.underlying src = some ds) (hx : VRel P H ι x c) (h : vconv P src dst H x = some v) : ∃ c', (convert src dst c).run P w = .ok c' w ∧ VRel P H ι v c' := by
  unfold vconv at h
  split at h
  · rename_i a n k
    unfold vbytes at h
    rw [hsrc] at h
    split at h
    · rename_i e hq
      cases hq
      split at h
      · rename_i hc
        obtain ⟨h1, h2⟩ := hc
        have he := isU8_spec h1
        have hd := isStr_spec h2
        split at h
        · rename_i m cs hs
          cases hb : byteNs cs with
          | none => rw [hb] at h; cases h
          | some ns =>
            rw [hb] at h; cases h
            obtain ⟨ws, k1, k2, k3, k4⟩ := src_ok R hx hs
            have hcs := byteNs_map hb
            have hws : ws = ns.map (.int .u8) := by
              apply List.ext_getElem (by rw [k1, ← k2, hcs]) 
              intro i q1 q2
              have hi : i < cs.length := by omega
              have := k3 i cs[i] ws[i] (List.getElem?_eq_getElem hi) (List.getElem?_eq_getElem q1)
              simp only [hcs] at this
              simp only [List.getElem_map] at this ⊢
              generalize ws[i] = q at *
              cases this; rfl
            rcases k4 with ⟨rfl, hm⟩ | ⟨b, cap, rfl, k5⟩
            · have hl : ns.length = 0 := by
                have h9 := congrArg List.length hcs
                rw [List.length_map] at h9; omega
              obtain rfl : ns = [] := List.length_eq_zero_iff.1 hl
              exact ⟨.string ByteArray.empty, run_convert_bytes_nil (P := P) (w := w) src e hsrc he 0 0 dst hd, .str _⟩
            · have hlen : ws.length = m := by omega
              have hld := run_loadCells_list (P := P) w b ws k5
              rw [hlen] at hld
              refine ⟨.string (strOfNums ns), ?_, .str _⟩
              rw [run_convert_bytes_string w src dst e _ m cap hsrc he hd, run_bytesToString w b m cap ns (by rw [hld, hws]), foldl_push_bytes]
              simp [strOfNums, ByteArray.empty, ByteArray.emptyWithCapacity] <;> rfl
        · cases h
      · cases h
    · cases h
  · exact convert_ok hsrc hx h

theorem max2_ok (hx : VRel P H ι x c) (hy : VRel P H ι y d) (h : vmax2 x y = some v) : ∃ c', (Builtin.max2 c d).run P w = .ok c' w ∧ VRel P H ι v c' := by
  unfold vmax2 at h
  split at h
  · cases hx; cases hy; cases h
    exact ⟨_, by simp [Builtin.max2], .int _ _⟩
  · cases h
theorem min2_ok (hx : VRel P H ι x c) (hy : VRel P H ι y d) (h : vmin2 x y = some v) : ∃ c', (Builtin.min2 c d).run P w = .ok c' w ∧ VRel P H ι v c' := by
  unfold vmin2 at h
  split at h
  · cases hx; cases hy; cases h
    exact ⟨_, by simp [Builtin.min2], .int _ _⟩
  · cases h

/-- lists of operands -/
def LRel (P : Program) (H : Heap) (ι : Inj) (l cs : List Value) : Prop := l.length = cs.length ∧ ∀ (i : Nat) (x c : Value), l[i]? = some x → cs[i]? = some c → VRel P H ι x c
theorem LRel.cons_inv {l cs : List Value} (h : LRel P H ι (x :: l) cs) : ∃ c cs', cs = c :: cs' ∧ VRel P H ι x c ∧ LRel P H ι l cs' := by
  cases cs with
  | nil => simp [LRel] at h
  | cons c cs' => exact ⟨c, cs', rfl, h.2 0 x c rfl rfl, by simpa using h.1, fun i x c hx hc => h.2 (i + 1) x c hx hc⟩
theorem LRel.nil_inv {cs : List Value} (h : LRel P H ι [] cs) : cs = [] := by
  have := h.1; simpa using this.symm
theorem LRel.of_map {α : Type} (l : List α) (f g : α → Value) (h : ∀ a ∈ l, VRel P H ι (f a) (g a)) : LRel P H ι (l.map f) (l.map g) :=
  ⟨by simp, fun i x c hx hc => by
    simp only [List.getElem?_map] at hx hc
    cases ha : l[i]? with
    | none => simp [ha] at hx
    | some a => simp [ha] at hx hc; subst hx; subst hc; exact h a (List.mem_of_getElem? ha)⟩
theorem LRel.mono {l cs : List Value} (e : Ext H ι H' ι') (h : LRel P H ι l cs) : LRel P H' ι' l cs := ⟨h.1, fun i x c hx hc => (h.2 i x c hx hc).mono e⟩
theorem LRel.append {l cs l' cs' : List Value} (h : LRel P H ι l cs) (h' : LRel P H ι l' cs') : LRel P H ι (l ++ l') (cs ++ cs') :=
  ⟨by simp [h.1, h'.1], fun i x c hx hc => by
    by_cases hi : i < l.length
    · rw [List.getElem?_append_left hi] at hx; rw [List.getElem?_append_left (by rw [← h.1]; exact hi)] at hc; exact h.2 i x c hx hc
    · rw [List.getElem?_append_right (by omega)] at hx; rw [List.getElem?_append_right (by rw [← h.1]; omega), ← h.1] at hc; exact h'.2 _ x c hx hc⟩

theorem fold_ok {f : Value → Value → Option Value} {g : Value → Value → Sem Value} (hf : ∀ {x y c d v}, VRel P H ι x c → VRel P H ι y d → f x y = some v → ∃ c', (g c d).run P w = .ok c' w ∧ VRel P H ι v c') :
    ∀ (l cs : List Value) (x c : Value), VRel P H ι x c → LRel P H ι l cs → vfold f x l = some v → ∃ c', (cs.foldlM g c).run P w = .ok c' w ∧ VRel P H ι v c'
  | [], cs, x, c, hx, hl, h => by
    obtain rfl := hl.nil_inv
    simp [vfold] at h; subst h
    exact ⟨c, by simp, hx⟩
  | y :: l, cs, x, c, hx, hl, h => by
    obtain ⟨d, cs', rfl, hy, hl'⟩ := hl.cons_inv
    simp only [vfold] at h
    split at h
    · rename_i z hz
      obtain ⟨c', h1, h2⟩ := hf hx hy hz
      obtain ⟨c'', h3, h4⟩ := fold_ok hf l cs' z c' h2 hl' h
      exact ⟨c'', by simp [List.foldlM_cons, h1, h3], h4⟩
    · cases h

theorem foldl_zipIdx_splice (l : List Value) : ∀ (k o : Nat) (cs : Array Value), o + k + l.length ≤ cs.size →
    ((l.zipIdx k).foldl (fun cs (x : Value × Nat) => cs.setIfInBounds (o + x.2) x.1) cs).toList = splice cs.toList (o + k) l := by
  induction l with
  | nil => intro k o cs h; simp [splice]
  | cons v l ih =>
    intro k o cs h
    simp only [List.zipIdx_cons, List.foldl_cons]
    rw [ih (k + 1) o _ (by simp at h ⊢; omega)]
    apply List.ext_getElem?
    intro i
    simp at h
    rw [getElem?_splice _ _ _ _ (by simp; omega), getElem?_splice _ _ _ _ (by simp; omega)]
    simp only [Array.toList_setIfInBounds, List.length_cons, List.getElem?_set]
    by_cases h1 : i < o + k
    · rw [if_pos (by omega), if_pos h1, if_neg (by omega)]
    · rw [if_neg h1]
      by_cases h2 : i = o + k
      · subst h2
        rw [if_pos (by omega), if_pos (by omega)]; simp; omega
      · rw [if_neg (by omega)]
        by_cases h3 : i < o + k + (l.length + 1)
        · rw [if_pos (by omega), if_pos h3, show i - (o + k) = (i - (o + (k + 1))) + 1 by omega, List.getElem?_cons_succ]
        · rw [if_neg (by omega), if_neg h3, if_neg (by omega)]

theorem fill_ok {place place' : Nat → Option (Nat × Nat)} (hpl : ∀ i x, place i = some x → place' i = some x) : ∀ (parts parts' : List (Nat × Value)) (l : List Value) (cs : Array Value) {l' : List Value},
    LRel P H ι l cs.toList → parts.length = parts'.length → (∀ (i : Nat) (p q : Nat × Value), parts[i]? = some p → parts'[i]? = some q → p.1 = q.1 ∧ VRel P H ι p.2 q.2) →
    vfill place l parts = some l' → ∃ cs', Instr.fill place' cs parts' = some cs' ∧ LRel P H ι l' cs'.toList
  | [], [], l, cs, l', hl, _, _, h => by simp [vfill] at h; subst h; exact ⟨cs, rfl, hl⟩
  | (i, v) :: parts, [], _, _, _, _, hlen, _, _ => by simp at hlen
  | [], _ :: _, _, _, _, _, hlen, _, _ => by simp at hlen
  | (i, v) :: parts, (j, c) :: parts', l, cs, l', hl, hlen, hp, h => by
    obtain ⟨hij, hv⟩ := hp 0 _ _ rfl rfl
    simp at hij hv
    subst hij
    simp only [vfill] at h
    split at h
    · rename_i o n hpi
      split at h
      · rename_i hc
        obtain ⟨h1, h2, h3⟩ := hc
        have hb : v ≠ .map none := fun e => by subst e; simp [Value.cells, ones, one] at h3
        obtain ⟨e1, e2⟩ := hv.cells hb
        have hlc := hl.1
        simp at hlc
        have hfz := foldl_zipIdx_splice c.cells.toList 0 o cs (by simp; omega)
        have key : LRel P H ι (splice l o v.cells.toList) ((c.cells.zipIdx.foldl (fun (cs : Array Value) (x : Value × Nat) => cs.setIfInBounds (o + x.2) x.1) cs).toList) := by
          have e3 : (c.cells.zipIdx.foldl (fun (cs : Array Value) (x : Value × Nat) => cs.setIfInBounds (o + x.2) x.1) cs).toList = splice cs.toList o c.cells.toList := by
            rw [← Array.foldl_toList]
            simpa using hfz
          rw [e3]
          have hvl : v.cells.toList.length = n := by simpa using h1
          have hcl : c.cells.toList.length = n := by simp; omega
          refine ⟨by rw [length_splice _ _ _ (by omega), length_splice _ _ _ (by simp; omega)]; simpa using hlc, fun i x y hx hy => ?_⟩
          rw [getElem?_splice _ _ _ _ (by omega)] at hx
          rw [getElem?_splice _ _ _ _ (by simp; omega)] at hy
          by_cases g1 : i < o
          · rw [if_pos g1] at hx hy; exact hl.2 i x y hx hy
          · rw [if_neg g1] at hx hy
            by_cases g2 : i < o + n
            · rw [if_pos (by omega)] at hx hy; exact e2 _ x y (by simpa using hx) (by simpa using hy)
            · rw [if_neg (by omega)] at hx hy; exact hl.2 i x y hx hy
        obtain ⟨cs', g1, g2⟩ := fill_ok hpl parts parts' _ _ key (by simpa using hlen) (fun i p q hp' hq' => hp (i + 1) p q (by simpa using hp') (by simpa using hq')) h
        refine ⟨cs', ?_, g2⟩
        simp only [Instr.fill, hpl _ _ hpi]
        rw [if_neg (by simp; omega)]
        exact g1
      · cases h
    · cases h
end Go.VM
/-! Composites, and every operation that is no call of a function. -/
set_option linter.all false
namespace Go.VM
open Go Go.RowKit
variable {P : Program} {H H' : Heap} {ι ι' : Inj} {v c x y d s : Value} {B frz : Nat} {w0 w w' : World} {t : TypeId}

/-- the parts of a composite, and the model's -/
def PRel (P : Program) (H : Heap) (ι : Inj) (l l' : List (Nat × Value)) : Prop :=
  l.length = l'.length ∧ ∀ (i : Nat) (p q : Nat × Value), l[i]? = some p → l'[i]? = some q → p.1 = q.1 ∧ VRel P H ι p.2 q.2

theorem buildSlice_ok (R : Rel P B w0 frz ι H w) (hf0 : frz ≤ H.length) {len : Nat} {parts : List (Nat × Value)} {parts' : Array (Nat × Value)} (hp : PRel P H ι parts parts'.toList)
    (h : vbuildSlice P H t len parts = some (v, H')) :
    ∃ c' w' ι', (Instr.buildSlice t len parts').run P w = .ok c' w' ∧ VRel P H' ι' v c' ∧ Ext H ι H' ι' ∧ Rel P B w0 frz ι' H' w' := by
  unfold vbuildSlice at h
  split at h
  · rename_i e n he
    obtain ⟨hu, i, z, hi, hsz, hpos, hb, hz, hzs⟩ := eltp_spec he
    split at h
    · rename_i z1 hz1
      obtain ⟨i', z', hi', hz', hzz, hlit⟩ := tzero_spec hz1
      rw [hi] at hi'; cases hi'
      rw [hz] at hz'; cases hz'
      split at h
      · rename_i hlen
        split at h
        · rename_i cs hcs
          cases h
          subst hsz
          have hzl : z1.length = i.size := by rw [← hzz]; simpa using hzs
          obtain ⟨cs', g1, g2⟩ := fill_ok (P := P) (H := H) (ι := ι) (place := fun j => some (j * i.size, i.size)) (place' := fun j => some (j * i.size, i.size)) (fun _ _ h => h) parts parts'.toList (List.replicate len z1).flatten (madeCells z.cells (len * i.size))
            ⟨by simp [size_madeCells, hzl], fun j x y hx hy => by
              have hlt := (List.getElem?_eq_some_iff.1 hx).1
              rw [length_flatten_replicate] at hlt
              rw [getElem?_flatten_replicate _ _ _ hlt] at hx
              have hy' : (madeCells z.cells (len * i.size))[j]? = some y := by simpa using hy
              rw [madeCells_get _ _ _ (by rw [hzl] at hlt; omega) (by omega)] at hy'
              have : z.cells[j % z.cells.size]? = z1[j % z1.length]? := by rw [← hzz]; simp
              rw [this, hx] at hy'; cases hy'
              exact .lit (hlit x (List.mem_of_getElem? hx))⟩ hp.1 hp.2 hcs
          have hrun : (Instr.buildSlice t len parts').run P w = .ok (.slice (some ⟨w.heap.size, 0, none⟩) len len) (w.alloc (.cells cs' e)) := by
            by_cases h0 : len * i.size = 0
            · have h00 : (madeCells z.cells (len * i.size)) = #[] := by apply Array.eq_empty_of_size_eq_zero; rw [size_madeCells]; exact h0
              rw [h00] at g1
              simp [Instr.buildSlice, run_underlying hu, sizeOf, typeInfo, hi, h0, g1, newRow, Array.range_zero']
            · simp only [madeCells] at g1
              simp [Instr.buildSlice, run_underlying hu, sizeOf, typeInfo, zeroValue, hi, hz, h0, g1, newRow]; omega
          have hsz := g2.1
          obtain ⟨RR, EE⟩ := R.alloc hf0 cs cs' e (by simp at hsz; omega) (fun j v hj => by
            have hlt := (List.getElem?_eq_some_iff.1 hj).1
            have hlt' : j < cs'.size := by simp at hsz; omega
            exact ⟨cs'[j], Array.getElem?_eq_getElem hlt', g2.2 j v _ hj (by simpa using Array.getElem?_eq_getElem hlt')⟩)
          refine ⟨_, _, _, hrun, ?_, EE, RR⟩
          have hcl : cs'.size = len * i.size := by
            have h1 : ∀ (pl : Nat → Option (Nat × Nat)) (parts : List (Nat × Value)) (a b : Array Value), Instr.fill pl a parts = some b → b.size = a.size := by
              intro pl parts
              induction parts with
              | nil => intro a b h; simp [Instr.fill] at h; rw [h]
              | cons p parts ih =>
                intro a b h
                obtain ⟨j, u⟩ := p
                simp only [Instr.fill] at h
                split at h
                · cases h
                · split at h
                  · cases h
                  · rw [ih _ _ h]
                    rw [← Array.foldl_toList]
                    generalize u.cells.zipIdx.toList = q
                    clear h ih
                    have : ∀ (q : List (Value × Nat)) (a : Array Value) (o : Nat), (q.foldl (fun (cs : Array Value) (x : Value × Nat) => cs.setIfInBounds (o + x.2) x.1) a).size = a.size := by
                      intro q
                      induction q with
                      | nil => intro a o; rfl
                      | cons r q ih => intro a o; simp only [List.foldl_cons]; rw [ih]; simp
                    exact this q a _
            rw [h1 _ _ _ _ g1, size_madeCells]
          exact .sl (r := ⟨cs, 0, e⟩) (l := ⟨w.heap.size, 0, _⟩) (by simp) rfl (by simp [Inj.at]; rfl) (Nat.le_refl _) (fun _ => by simp [cellsOf_of hi, hcl])
        · cases h
      · cases h
    · cases h
  · cases h

theorem run_places (w : World) : ∀ (fs : List Field) (pl : List (Nat × Nat)), (fs.mapM fun f => (P.info? f.type).map fun i => (f.offset, i.size)) = some pl →
    (fs.mapM fun f => (do pure (f.offset, ← sizeOf f.type) : Sem (Nat × Nat))).run P w = .ok pl w
  | [], pl, h => by simp at h; subst h; rfl
  | f :: fs, pl, h => by
    simp only [List.mapM_cons] at h ⊢
    cases hi : P.info? f.type with
    | none => simp [hi] at h
    | some i =>
      cases hl : fs.mapM fun f => (P.info? f.type).map fun i => (f.offset, i.size) with
      | none => simp [hi, hl] at h
      | some l =>
        simp [hi, hl] at h
        subst h
        have ih := run_places w fs l hl
        simp only [bind_pure_comp] at ih
        simp [sizeOf, typeInfo, hi] at ih ⊢
        simp [ih]

theorem build_ok {parts : List (Nat × Value)} {parts' : Array (Nat × Value)} (hp : PRel P H ι parts parts'.toList) (h : vbuild P t parts = some v) :
    ∃ c', (Instr.build t parts').run P w = .ok c' w ∧ VRel P H ι v c' := by
  unfold vbuild at h
  split at h
  · rename_i pl hpl
    split at h
    · rename_i z hz0
      obtain ⟨i, z', hi, hz, hzz, hlit⟩ := tzero_spec hz0
      split at h
      · rename_i cs hcs
        cases h
        have hz2 : LRel P H ι z z'.cells.toList := ⟨by rw [hzz], fun j x y hx hy => by rw [hzz, hx] at hy; cases hy; exact .lit (hlit x (List.mem_of_getElem? hx))⟩
        unfold bplaces at hpl
        split at hpl
        · rename_i fs hu
          obtain ⟨cs', g1, g2⟩ := fill_ok (place := fun i => pl[i]?) (place' := fun i => pl[i]?) (fun _ _ h => h) parts parts'.toList z z'.cells hz2 hp.1 hp.2 hcs
          refine ⟨.agg cs', ?_, .agg (by simpa using g2.1) fun i x y hx hy => g2.2 i x y (by simpa using hx) (by simpa using hy)⟩
          have hm := run_places (P := P) w fs.toList pl hpl
          simp only [Instr.build, Sem.run_bind, zeroValue, typeInfo, run_program, hi, Result.andThen_ok, Sem.run_pure, hz, run_underlying hu]
          rw [Array.mapM_eq_mapM_toList]
          simp only [Sem.run_map, hm, Result.andThen_ok, List.getElem?_toArray, g1, Sem.run_pure]
        · rename_i n e hu
          cases hj : P.info? e with
          | none => simp [hj] at hpl
          | some j =>
            simp [hj] at hpl
            subst hpl
            obtain ⟨cs', g1, g2⟩ := fill_ok (place := fun i => ((List.range n).map fun k => (k * j.size, j.size))[i]?) (place' := fun i => some (i * j.size, j.size)) (fun i x hx => by
              simp only [List.getElem?_map] at hx
              cases hr : (List.range n)[i]? with
              | none => simp [hr] at hx
              | some k =>
                have : k = i := by have := List.getElem?_eq_some_iff.1 hr; obtain ⟨h1, h2⟩ := this; simp at h2; omega
                subst this; simp [hr] at hx; simp [hx]) parts parts'.toList z z'.cells hz2 hp.1 hp.2 hcs
            refine ⟨.agg cs', ?_, .agg (by simpa using g2.1) fun i x y hx hy => g2.2 i x y (by simpa using hx) (by simpa using hy)⟩
            simp only [Instr.build, Sem.run_bind, zeroValue, typeInfo, run_program, hi, Result.andThen_ok, Sem.run_pure, hz, run_underlying hu, sizeOf, hj, g1]
        · cases hpl
      · cases h
    · cases h
  · cases h
theorem Rel.quiet (R : Rel P B w0 frz ι H w) (cs : Array Value) (e : TypeId) : Rel P B w0 frz ι H (w.alloc (.cells cs e)) := by
  refine ⟨R.below.alloc R.hB _, by have := R.hB; simp; omega, fun id l hl => ?_, fun id l r hl hr hf => ?_, R.gl⟩
  · obtain ⟨h1, r, h2, h3⟩ := R.row id l hl
    refine ⟨by simp; omega, r, h2, h3.world fun a ha => ?_⟩
    exact World.cell?_alloc_lt _ _ _ (by omega)
  · obtain ⟨h1, ⟨cs', h2, h3⟩, h4⟩ := R.own id l r hl hr hf
    exact ⟨h1, ⟨cs', by rw [Below.heap_alloc _ _ _ ((Array.getElem?_eq_some_iff.1 h2).1)]; exact h2, h3⟩, h4⟩
theorem empty_ok (R : Rel P B w0 frz ι H w) {e n : Nat} {z : List Value} (he : eltp P t = some (e, n)) (hz1 : tzero P e = some z) :
    ∃ c' w', (Instr.buildSlice t 0 #[]).run P w = .ok c' w' ∧ VRel P H ι (.slice none 0 0) c' ∧ Rel P B w0 frz ι H w' := by
  obtain ⟨hu, i, z, hi, hsz, hpos, hb, hz, hzs⟩ := eltp_spec he
  refine ⟨.slice (some ⟨w.heap.size, 0, none⟩) 0 0, w.alloc (.cells #[] e), ?_, .noSl, R.quiet _ _⟩
  simp [Instr.buildSlice, run_underlying hu, sizeOf, typeInfo, hi, Instr.fill, newRow, Array.range_zero']
end Go.VM
/-! Every operation that is no call of a function. -/
set_option linter.all false
namespace Go.VM
open Go Go.RowKit
variable {P : Program} {H H' : Heap} {ι ι' : Inj} {v c x y d s : Value} {B frz : Nat} {w0 w w' : World} {t : Env} {a : Act}

/-- the model does what the machine says -/
def Fine (P : Program) (B : Nat) (w0 : World) (frz : Nat) (H : Heap) (ι : Inj) (r : Result Next) (v : Value) (H' : Heap) : Prop :=
  ∃ c w' ι', (r = .ok (.value c) w' ∨ (r = .ok .skip w' ∧ c = undef)) ∧ VRel P H' ι' v c ∧ Ext H ι H' ι' ∧ Rel P B w0 frz ι' H' w'

theorem fine_same (R : Rel P B w0 frz ι H w) {s : Sem Value} (h : ∃ c, s.run P w = .ok c w ∧ VRel P H ι v c) :
    Fine P B w0 frz H ι ((do pure (.value (← s)) : Sem Next).run P w) v H := by
  obtain ⟨c, h1, h2⟩ := h
  exact ⟨c, w, ι, .inl (by rw [Sem.run_bind, h1]; rfl), h2, Ext.refl _ _, R⟩
theorem fine_new {s : Sem Value} (h : ∃ c w' ι', s.run P w = .ok c w' ∧ VRel P H' ι' v c ∧ Ext H ι H' ι' ∧ Rel P B w0 frz ι' H' w') :
    Fine P B w0 frz H ι ((do pure (.value (← s)) : Sem Next).run P w) v H' := by
  obtain ⟨c, w', ι', h1, h2, h3, h4⟩ := h
  exact ⟨c, w', ι', .inl (by rw [Sem.run_bind, h1]; rfl), h2, h3, h4⟩
theorem omap {α β : Type} {o : Option α} {f : α → β} {b : β} (h : o.map f = some b) : ∃ a, o = some a ∧ f a = b := by
  cases o with
  | none => cases h
  | some a => simp at h; exact ⟨a, rfl, h⟩

theorem ev_act (E : ERel P H ι t a.tmps) (x : Operand) : VRel P H ι (ev t x) (a.eval x) := ev_ok (defers := a.defers) E x
theorem orel_act (E : ERel P H ι t a.tmps) (x : Option Operand) : ORel P H ι (x.map (ev t)) (x.map a.eval) := by
  cases x with
  | none => trivial
  | some x => exact ev_act E x
theorem prel_act (E : ERel P H ι t a.tmps) (l : Array (Nat × Operand)) :
    PRel P H ι (l.toList.map fun x => (x.1, ev t x.2)) (l.map fun (i, x) => (i, a.eval x)).toList := by
  refine ⟨by simp, fun i p q hp hq => ?_⟩
  simp only [Array.toList_map, List.getElem?_map] at hp hq
  cases hl : l.toList[i]? with
  | none => rw [hl] at hp; cases hp
  | some x => rw [hl] at hp hq; cases hp; cases hq; exact ⟨rfl, ev_act E _⟩

theorem builtin_ok (R : Rel P B w0 frz ι H w) (hf0 : frz ≤ H.length) (E : ERel P H ι t a.tmps) {b : Builtin} {ts : Array TypeId} {args : Array Operand} {ty : TypeId} {consts : Array Bool}
    (h : vbuiltin P frz H b ts.toList (args.toList.map (ev t)) = some (v, H')) : Fine P B w0 frz H ι ((builtin b ts ty consts (args.map a.eval)).run P w) v H' := by
  have L : LRel P H ι (args.toList.map (ev t)) (args.map a.eval).toList := by
    have := LRel.of_map (P := P) (H := H) (ι := ι) args.toList (ev t) a.eval (fun x _ => ev_act E x)
    simpa using this
  generalize hl : args.toList.map (ev t) = l at *
  generalize hcs : args.map a.eval = cs at *
  have hcs2 : ∀ {l : List Value}, cs.toList = l → cs = l.toArray := fun h => by rw [← h]
  have hts2 : ∀ {l : List TypeId}, ts.toList = l → ts = l.toArray := fun h => by rw [← h]
  unfold vbuiltin at h
  split at h
  · -- len
    split at h
    · rename_i t0 _ x0 _ ht
      obtain ⟨v', h1, h2⟩ := omap h
      cases h2
      obtain ⟨c, cs', hc, hx, _⟩ := L.cons_inv
      exact fine_same R (len_ok (by rw [hts2 ht]; simp) (by rw [hcs2 hc]; simp) hx h1)
    · cases h
  · -- cap
    split at h
    · rename_i t0 _ x0 _ ht
      obtain ⟨v', h1, h2⟩ := omap h
      cases h2
      obtain ⟨c, cs', hc, hx, _⟩ := L.cons_inv
      exact fine_same R (cap_ok (by rw [hts2 ht]; simp) (by rw [hcs2 hc]; simp) hx h1)
    · cases h
  · -- append
    split at h
    · rename_i t0 u0 s0 x0 ht
      obtain ⟨c, cs', hc, hx, L1⟩ := L.cons_inv
      obtain ⟨d, cs'', hd, hy, L2⟩ := L1.cons_inv
      obtain rfl := L2.nil_inv
      subst hd
      rw [hts2 ht, hcs2 hc]
      exact fine_new (append_ok R hf0 hx hy h)
    · cases h
  · -- copy
    split at h
    · rename_i t0 u0 s0 x0 ht
      obtain ⟨c, cs', hc, hx, L1⟩ := L.cons_inv
      obtain ⟨d, cs'', hd, hy, L2⟩ := L1.cons_inv
      obtain rfl := L2.nil_inv
      subst hd
      rw [hts2 ht, hcs2 hc]
      exact fine_new (copy_ok R hx hy h)
    · cases h
  · -- clear
    split at h
    · rename_i t0 s0 ht
      obtain ⟨c, cs', hc, hx, L1⟩ := L.cons_inv
      obtain rfl := L1.nil_inv
      rw [hts2 ht, hcs2 hc]
      exact fine_new (clear_ok R hx h)
    · cases h
  · -- max
    split at h
    · obtain ⟨v', h1, h2⟩ := omap h
      cases h2
      obtain ⟨c, cs', hc, hx, L1⟩ := L.cons_inv
      refine fine_same R ?_
      simp only [Builtin.max_, hc]
      exact fold_ok max2_ok _ _ _ _ hx L1 h1
    · cases h
  · split at h
    · obtain ⟨v', h1, h2⟩ := omap h
      cases h2
      obtain ⟨c, cs', hc, hx, L1⟩ := L.cons_inv
      refine fine_same R ?_
      simp only [Builtin.min_, hc]
      exact fold_ok min2_ok _ _ _ _ hx L1 h1
    · cases h
  · cases h

theorem op_ok (R : Rel P B w0 frz ι H w) (hf0 : frz ≤ H.length) (E : ERel P H ι t a.tmps) {call : Calling} (o : Oper) (hnc : ∀ c f, o.op = .call c → c.callee ≠ .value f)
    (h : vop P frz call o.op t H = some (v, H')) : Fine P B w0 frz H ι ((execOp a.eval o).run P w) v H' := by
  obtain ⟨dst, op, type, pos, after, guard⟩ := o
  cases op <;> simp only [vop] at h hnc <;> try (cases h; done)
  case move x => cases h; exact ⟨_, w, ι, .inl rfl, ev_act E x, Ext.refl _ _, R⟩
  case assign x => cases h; exact ⟨_, w, ι, .inl rfl, ev_act E x, Ext.refl _ _, R⟩
  case pick c0 x y =>
    have hc := ev_act E c0
    split at h
    · rename_i hb; rw [hb] at hc; cases h
      generalize hcc : a.eval c0 = cc at hc
      cases hc
      exact ⟨_, w, ι, .inl (by simp [execOp, hcc, asBool]), ev_act E x, Ext.refl _ _, R⟩
    · rename_i hb; rw [hb] at hc; cases h
      generalize hcc : a.eval c0 = cc at hc
      cases hc
      exact ⟨_, w, ι, .inl (by simp [execOp, hcc, asBool]), ev_act E y, Ext.refl _ _, R⟩
    · cases h
  case alloc e =>
    split at h
    · rename_i z hz; cases h; exact fine_new (alloc_ok R hf0 hz)
    · cases h
  case box e x =>
    split at h
    · rename_i ho; cases h; exact fine_new (box_ok R hf0 (ev_act E x) ho)
    · cases h
  case build ty parts => obtain ⟨v', h1, h2⟩ := omap h; cases h2; exact fine_same R (build_ok (prel_act E parts) h1)
  case buildSlice ty len parts => exact fine_new (buildSlice_ok R hf0 (prel_act E parts) h)
  case load ty x => obtain ⟨v', h1, h2⟩ := omap h; cases h2; exact fine_same R (load_ok R (ev_act E x) h1)
  case store ty x y =>
    obtain ⟨v', h1, h2⟩ := omap h; cases h2
    obtain ⟨w', ι', g1, g2, g3⟩ := store_ok R (ev_act E x) (ev_act E y) h1
    exact ⟨undef, w', ι', .inr ⟨by simp only [execOp, Sem.run_bind, g1]; rfl, rfl⟩, VRel.undef, g2, g3⟩
  case nilCheck x =>
    have hx := ev_act E x
    split at h
    · rename_i ad hb
      split at h
      · rename_i r hr; cases h
        rw [hb] at hx
        obtain ⟨l, hl, hc⟩ := hx.ptr_inv hr
        rw [hc] at hx
        exact ⟨_, w, ι, .inl (by simp only [execOp, hc]; rfl), hx, Ext.refl _ _, R⟩
      · cases h
    · cases h
  case binOp op ty x y yt =>
    obtain ⟨v', h1, h2⟩ := omap h; cases h2
    by_cases hq : isNilC y = true
    · rw [hq] at h1
      cases isNilC_eq hq
      obtain ⟨⟨c', g1, g2⟩, b, n, k, hc⟩ := nilq_ok (w := w) (ev_act E x) h1
      have hg : (eqGuard op ty x (.const (.slice none 0 0)) (a.eval x) (a.eval (.const (.slice none 0 0)))).run P w = .ok () w := by
        rw [hc]; cases op <;> rfl
      have g1 : (Go.binOp op ty (a.eval x) (a.eval (.const (.slice none 0 0)))).run P w = .ok c' w := g1
      exact ⟨c', w, ι, .inl (by simp only [execOp, Sem.run_bind, hg, Result.andThen_ok, g1]; rfl), g2, Ext.refl _ _, R⟩
    have hq' : isNilC y = false := by cases hh : isNilC y; rfl; exact absurd hh hq
    rw [hq'] at h1
    simp only at h1
    obtain ⟨c', g1, g2⟩ := bin_ok (w := w) (ev_act E x) (ev_act E y) h1
    have hg : (eqGuard op ty x y (a.eval x) (a.eval y)).run P w = .ok () w := by
      unfold eqGuard
      have hx := ev_act E x
      have hy := ev_act E y
      generalize a.eval x = cx at *
      generalize a.eval y = cy at *
      unfold vbin at h1
      split at h1
      · rename_i e1 e2; rw [e1] at hx; rw [e2] at hy; cases hx; cases hy; cases op <;> rfl
      · rename_i e1 e2; rw [e1] at hx; rw [e2] at hy; cases hx; cases hy; cases op <;> rfl
      · rename_i e1 e2; rw [e1] at hx; rw [e2] at hy; cases hx; cases hy; cases op <;> rfl
      · rename_i e1 e2; rw [e1] at hx; rw [e2] at hy; cases hx; cases hy
        split at h1
        · rename_i ks hn
          have hg := fun (p q : Array Value) => run_eqGuard_agg w .eql ty x y p q (flatN_guard hn)
          unfold eqGuard at hg
          exact hg _ _
        · rename_i ks hn
          have hg := fun (p q : Array Value) => run_eqGuard_agg w .neq ty x y p q (flatN_guard hn)
          unfold eqGuard at hg
          exact hg _ _
        · cases h1
      · cases h1
    exact ⟨c', w, ι, .inl (by simp only [execOp, Sem.run_bind, hg, Result.andThen_ok, g1]; rfl), g2, Ext.refl _ _, R⟩
  case unOp op ty x => obtain ⟨v', h1, h2⟩ := omap h; cases h2; exact fine_same R (un_ok (ev_act E x) h1)
  case convert src dst x =>
    split at h
    · rename_i hs
      obtain ⟨v', h1, h2⟩ := omap h; cases h2
      cases hd : P.underlying src with
      | none => simp [hd] at hs
      | some ds => exact fine_same R (conv_ok R hd (ev_act E x) h1)
    · cases h
  case makeFunc fn first captured =>
    cases h
    refine ⟨.func fn (first.map a.eval) (captured.map a.eval), w, ι, .inl rfl, .func (by simp) (by simp) (fun i x y hx hy => ?_) (fun i x y hx hy => ?_), Ext.refl _ _, R⟩
    · simp only [Array.getElem?_map] at hx hy
      cases hl : first[i]? with
      | none => rw [hl] at hx; cases hx
      | some z => rw [hl] at hx hy; cases hx; cases hy; exact ev_act E z
    · simp only [Array.getElem?_map] at hx hy
      cases hl : captured[i]? with
      | none => rw [hl] at hx; cases hx
      | some z => rw [hl] at hx hy; cases hx; cases hy; exact ev_act E z
  case makeSlice ty l cp => exact fine_new (make_ok R hf0 (ev_act E l) (ev_act E cp) h)
  case slice ty x lo hi mx =>
    cases mx with
    | none => obtain ⟨v', h1, h2⟩ := omap h; cases h2; exact fine_same R (slice_ok (ev_act E x) (orel_act E lo) (orel_act E hi) h1)
    | some m => cases h
  case fieldAddr ty x f => obtain ⟨v', h1, h2⟩ := omap h; cases h2; exact fine_same R (fieldAddr_ok (ev_act E x) h1)
  case field ty x f => obtain ⟨v', h1, h2⟩ := omap h; cases h2; exact fine_same R (field_ok (ev_act E x) h1)
  case indexAddr ty x i => obtain ⟨v', h1, h2⟩ := omap h; cases h2; exact fine_same R (indexAddr_ok (ev_act E x) (ev_act E i) h1)
  case index ty x i => obtain ⟨v', h1, h2⟩ := omap h; cases h2; exact fine_same R (index_ok (ev_act E x) (ev_act E i) h1)
  case extract x i =>
    have hx := ev_act E x
    split at h
    · rename_i vs hb
      obtain ⟨v', h1, h2⟩ := omap h; cases h2
      rw [hb] at hx
      generalize hcc : a.eval x = cc at hx
      cases hx with
      | tuple hs hrel =>
        rename_i cs'
        have hlt : i < cs'.size := by have := (Array.getElem?_eq_some_iff.1 h1).1; omega
        refine ⟨cs'[i], w, ι, .inl ?_, hrel i _ _ h1 (Array.getElem?_eq_getElem hlt), Ext.refl _ _, R⟩
        simp [execOp, hcc, Instr.extract, hlt]
    · cases h
  case call c0 =>
    obtain ⟨callee, args, argTypes⟩ := c0
    cases callee with
    | builtin b =>
      exact builtin_ok (b := b) (ts := argTypes) (args := args) (ty := type) R hf0 E h
    | value f => exact absurd rfl (hnc _ f rfl)
    | invoke r m => cases h
end Go.VM
/-! What is frozen stays; calls; the whole. -/
set_option linter.all false
namespace Go.VM
open Go Go.RowKit
variable {P : Program} {H H' H'' : Heap} {ι ι' : Inj} {v c x y d s : Value} {B frz : Nat} {w0 w w' : World} {t t' : Env} {a : Act}

/-- rows below frz stay, and no row goes -/
def Keeps (frz : Nat) (H H' : Heap) : Prop := H.length ≤ H'.length ∧ ∀ id, id < frz → id < H.length → H'[id]? = H[id]?
theorem Keeps.refl (frz : Nat) (H : Heap) : Keeps frz H H := ⟨Nat.le_refl _, fun _ _ _ => rfl⟩
theorem Keeps.trans (h : Keeps frz H H') (k : Keeps frz H' H'') : Keeps frz H H'' :=
  ⟨Nat.le_trans h.1 k.1, fun id h1 h2 => (k.2 id h1 (Nat.lt_of_lt_of_le h2 h.1)).trans (h.2 id h1 h2)⟩
theorem Keeps.app (frz : Nat) (H L : Heap) : Keeps frz H (H ++ L) := ⟨by simp, fun id _ h => by rw [List.getElem?_append_left h]⟩
theorem Keeps.set {id : Nat} (h : frz ≤ id) (r : Row) : Keeps frz H (H.set id r) := ⟨by simp, fun j h1 _ => by rw [List.getElem?_set_ne (by omega)]⟩

theorem vappendZ_keeps {tt u : TypeId} (h : vappendZ P H tt u s x = some (v, H')) : Keeps frz H H' := by
  unfold vappendZ at h
  repeat' split at h
  all_goals first | (cases h; exact .app _ _ _) | cases h
theorem vappS_keeps {tt u : TypeId} {b : ByteArray} (h : vappS P frz H tt u s b = some (v, H')) : Keeps frz H H' := by
  unfold vappS at h
  split at h
  · split at h
    · split at h
      · split at h
        · split at h
          · cases h; exact .refl _ _
          · split at h
            · cases h; exact .app _ _ _
            · cases h
        · split at h
          · split at h
            · cases h; exact .refl _ _
            · split at h
              · rename_i hc; cases h; exact .set hc.2.1 _
              · cases h
          · cases h
        · cases h
      · cases h
    · cases h
  · cases h
theorem vappend_keeps {tt u : TypeId} (h : vappend P frz H tt u s x = some (v, H')) : Keeps frz H H' := by
  unfold vappend at h
  split at h
  · split at h
    · split at h
      · split at h
        · split at h
          · cases h; exact .refl _ _
          · split at h
            · cases h; exact .app _ _ _
            · cases h
        · split at h
          · split at h
            · cases h; exact .refl _ _
            · split at h
              · rename_i hc; cases h; exact .set hc.2.1 _
              · cases h
          · cases h
        · cases h
      · cases h
    · cases h
  · unfold vappendX at h
    split at h
    · exact vappS_keeps h
    · exact vappendZ_keeps h
theorem vcopy_keeps {tt u : TypeId} (h : vcopy P frz H tt u s x = some (v, H')) : Keeps frz H H' := by
  unfold vcopy at h
  split at h
  · split at h
    · split at h
      · split at h
        · cases h; exact .refl _ _
        · split at h
          · split at h
            · rename_i hc; cases h; exact .set hc.1 _
            · cases h
          · cases h
        · cases h
      · cases h
    · cases h
  · cases h
theorem vstore_keeps {tt : TypeId} (h : vstore P frz H tt x v = some H') : Keeps frz H H' := by
  unfold vstore at h
  split at h
  · split at h
    · split at h
      · split at h
        · rename_i hc; cases h; exact .set hc.1 _
        · cases h
      · cases h
    · cases h
  · cases h
theorem vmake_keeps {tt : TypeId} (h : vmake P H tt x y = some (v, H')) : Keeps frz H H' := by
  unfold vmake at h
  split at h
  · split at h
    · split at h
      · split at h
        · cases h; exact .app _ _ _
        · cases h
      · cases h
    · cases h
  · cases h
theorem vbuildSlice_keeps {tt : TypeId} {n : Nat} {parts : List (Nat × Value)} (h : vbuildSlice P H tt n parts = some (v, H')) : Keeps frz H H' := by
  unfold vbuildSlice at h
  split at h
  · split at h
    · split at h
      · split at h
        · cases h; exact .app _ _ _
        · cases h
      · cases h
    · cases h
  · cases h
theorem vclear_keeps {tt : TypeId} {s : Value} (h : vclear P frz H tt s = some (v, H')) : Keeps frz H H' := by
  unfold vclear at h
  split at h
  · split at h
    · cases h; exact .refl _ _
    · cases h
  · split at h
    · split at h
      · split at h
        · split at h
          · rename_i hc; cases h; exact .set hc.1 _
          · cases h
        · cases h
      · cases h
    · cases h
  · cases h
theorem vbuiltin_keeps {b : Builtin} {ts : List TypeId} {l : List Value} (h : vbuiltin P frz H b ts l = some (v, H')) : Keeps frz H H' := by
  unfold vbuiltin at h
  split at h
  · split at h
    · obtain ⟨_, _, h2⟩ := omap h; cases h2; exact .refl _ _
    · cases h
  · split at h
    · obtain ⟨_, _, h2⟩ := omap h; cases h2; exact .refl _ _
    · cases h
  · split at h
    · exact vappend_keeps h
    · cases h
  · split at h
    · exact vcopy_keeps h
    · cases h
  · split at h
    · exact vclear_keeps h
    · cases h
  · split at h
    · obtain ⟨_, _, h2⟩ := omap h; cases h2; exact .refl _ _
    · cases h
  · split at h
    · obtain ⟨_, _, h2⟩ := omap h; cases h2; exact .refl _ _
    · cases h
  · cases h

def CallKeeps (frz : Nat) (call : Calling) : Prop := ∀ g l H v H', frz ≤ H.length → call g l H = some (v, H') → Keeps frz H H'

theorem vop_keeps {call : Calling} (hc : CallKeeps frz call) (hf : frz ≤ H.length) {o : Op} (h : vop P frz call o t H = some (v, H')) : Keeps frz H H' := by
  cases o <;> simp only [vop] at h <;> try (cases h; done)
  case move => cases h; exact .refl _ _
  case assign => cases h; exact .refl _ _
  case pick => split at h <;> cases h <;> exact .refl _ _
  case alloc =>
    split at h
    · cases h; exact .app _ _ _
    · cases h
  case box =>
    split at h
    · cases h; exact .app _ _ _
    · cases h
  case build => obtain ⟨_, _, h2⟩ := omap h; cases h2; exact .refl _ _
  case buildSlice => exact vbuildSlice_keeps h
  case load => obtain ⟨_, _, h2⟩ := omap h; cases h2; exact .refl _ _
  case store => obtain ⟨_, h1, h2⟩ := omap h; cases h2; exact vstore_keeps h1
  case nilCheck =>
    split at h
    · split at h
      · cases h; exact .refl _ _
      · cases h
    · cases h
  case binOp => obtain ⟨_, _, h2⟩ := omap h; cases h2; exact .refl _ _
  case unOp => obtain ⟨_, _, h2⟩ := omap h; cases h2; exact .refl _ _
  case convert =>
    split at h
    · obtain ⟨_, _, h2⟩ := omap h; cases h2; exact .refl _ _
    · cases h
  case makeFunc => cases h; exact .refl _ _
  case makeSlice => exact vmake_keeps h
  case slice ty x lo hi mx =>
    cases mx with
    | none => obtain ⟨_, _, h2⟩ := omap h; cases h2; exact .refl _ _
    | some => cases h
  case fieldAddr => obtain ⟨_, _, h2⟩ := omap h; cases h2; exact .refl _ _
  case field => obtain ⟨_, _, h2⟩ := omap h; cases h2; exact .refl _ _
  case indexAddr => obtain ⟨_, _, h2⟩ := omap h; cases h2; exact .refl _ _
  case index => obtain ⟨_, _, h2⟩ := omap h; cases h2; exact .refl _ _
  case extract =>
    split at h
    · obtain ⟨_, _, h2⟩ := omap h; cases h2; exact .refl _ _
    · cases h
  case call c0 =>
    split at h
    · exact vbuiltin_keeps h
    · split at h
      · exact hc _ _ _ _ _ hf h
      · cases h
    · cases h

theorem vops_keeps {call : Calling} (hc : CallKeeps frz call) {ops : Array Oper} : ∀ (l : List Oper) (t : Env) (H : Heap), frz ≤ H.length → vops P frz call ops l t H = some (t', H') → Keeps frz H H'
  | [], t, H, _, h => by simp [vops] at h; rw [h.2]; exact .refl _ _
  | o :: l, t, H, hf, h => by
    simp only [vops] at h
    split at h
    · split at h
      · rename_i v1 H1 h1
        have k1 := vop_keeps hc hf h1
        exact k1.trans (vops_keeps hc l _ _ (Nat.le_trans hf k1.1) h)
      · cases h
    · exact vops_keeps hc l _ _ hf h
    · cases h

theorem vopsW_keeps {call : Calling} (hc : CallKeeps frz call) {ops : Array Oper} {fl : List Nat × List Nat} : ∀ (l : List Oper) (n : Nat) (wl : List Wat) (t : Env) (H : Heap), frz ≤ H.length → vopsW P frz call ops fl n wl l t H = some (t', H') → Keeps frz H H'
  | [], _, _, t, H, _, h => by simp [vopsW] at h; rw [h.2]; exact .refl _ _
  | o :: l, n, wl, t, H, hf, h => by
    simp only [vopsW] at h
    split at h
    · split at h
      · rename_i v1 H1 h1
        have k1 := vop_keeps hc hf h1
        split at h
        · exact k1.trans (vopsW_keeps hc l _ _ _ _ (Nat.le_trans hf k1.1) h)
        · cases h
      · cases h
    · exact vopsW_keeps hc l _ _ _ _ hf h
    · cases h
theorem vregion_keeps {C : Ctx} {call : Calling} (hc : CallKeeps frz call) {ops : Array Oper} {draw : Bool} (hf : frz ≤ H.length) (h : vregion C frz call ops draw t H = some (t', H')) : Keeps frz H H' := by
  unfold vregion at h
  split at h
  · cases h; exact .refl _ _
  split at h
  · exact vops_keeps hc _ _ _ hf h
  · split at h
    · exact vopsW_keeps hc _ _ _ _ _ hf h
    · cases h

def ExecKeeps (exec : Nat → Code → Env → Heap → Option (Out × Env × Heap)) : Prop := ∀ frz c t H o t' H', frz ≤ H.length → exec frz c t H = some (o, t', H') → Keeps frz H H'

theorem vfinish_keeps {C : Ctx} {g : Nat} {fn : Func} (hk : Keeps frz H H') (h : vfinish C g fn H t' H' = some (v, H'')) : Keeps frz H H'' := by
  unfold vfinish at h
  split at h
  · split at h
    · split at h
      · cases h; exact .app _ _ _
      · cases h
    · cases h; exact hk
  · cases h
theorem vcall_keeps {C : Ctx} {exec : Nat → Code → Env → Heap → Option (Out × Env × Heap)} (he : ExecKeeps exec) : CallKeeps frz (vcallWith C exec frz) := by
  intro g l H v H' hf h
  unfold vcallWith at h
  have key : ∀ {body t1 H1 o}, exec (if C.mode g = 2 then frz else H.length) body (argEnv l) H = some (o, t1, H1) → Keeps frz H H1 := by
    intro body t1 H1 o h1
    split at h1
    · exact he _ _ _ _ _ _ _ hf h1
    · have := he _ _ _ _ _ _ _ (Nat.le_refl _) h1
      exact ⟨this.1, fun id _ h2 => this.2 id h2 h2⟩
  split at h
  · split at h
    · split at h
      · split at h
        · rename_i h1; exact vfinish_keeps (key h1) h
        · rename_i h1; exact vfinish_keeps (key h1) h
        · cases h
      · cases h
    · cases h
  · cases h

theorem vexec_keeps (C : Ctx) : ∀ k, ExecKeeps (vexecF C k)
  | 0 => fun _ _ _ _ _ _ _ _ h => by simp [vexecF] at h
  | k + 1 => fun frz c t H o t' H' hf h => by
    have ih := vexec_keeps C k
    cases c <;> simp only [vexecF] at h <;> try (cases h; done)
    case skip => cases h; exact .refl _ _
    case label => cases h; exact .refl _ _
    case ret => cases h; exact .refl _ _
    case exit => cases h; exact .refl _ _
    case seq c1 c2 =>
      split at h
      · rename_i t1 H1 h1
        have k1 := ih _ _ _ _ _ _ _ hf h1
        exact k1.trans (ih _ _ _ _ _ _ _ (Nat.le_trans hf k1.1) h)
      · exact ih _ _ _ _ _ _ _ hf h
    case cond x c1 c2 =>
      split at h
      · exact ih _ _ _ _ _ _ _ hf h
      · exact ih _ _ _ _ _ _ _ hf h
      · cases h
    case block id body =>
      split at h
      · rename_i id' t1 H1 h1
        have k1 := ih _ _ _ _ _ _ _ hf h1
        split at h <;> cases h <;> exact k1
      · exact ih _ _ _ _ _ _ _ hf h
    case loop body =>
      split at h
      · rename_i t1 H1 h1
        have k1 := ih _ _ _ _ _ _ _ hf h1
        exact k1.trans (ih _ _ _ _ _ _ _ (Nat.le_trans hf k1.1) h)
      · exact ih _ _ _ _ _ _ _ hf h
    case region id ops draw =>
      split at h
      · rename_i t1 H1 h1
        cases h
        exact vregion_keeps (vcall_keeps ih) hf h1
      · cases h
end Go.VM
/-! What a call made is laid behind the rows that were there. -/
set_option linter.all false
namespace Go.VM
open Go Go.RowKit
variable {P : Program} {H HF L : Heap} {ι ιF ι' : Inj} {v v' c x y d s : Value} {B frz : Nat} {w0 w wF : World}

def packInj (n : Nat) (ι ιF : Inj) (ids : List Nat) : Inj := fun id => if id < n then ι id else match ids[id - n]? with | some j => ιF j | none => none

structure Good (n : Nat) (HF : Heap) (ids : List Nat) : Prop where
  ge : ∀ j ∈ ids, n ≤ j
  row : ∀ j ∈ ids, ∃ r, HF[j]? = some r
  nodup : ids.Nodup

section
variable (E : Ext H ι HF ιF) (K : Keeps H.length H HF)
include E K
theorem inj_old {id : Nat} (h : id < H.length) : HF[id]? = H[id]? ∧ ιF id = ι id := by
  have h1 := K.2 id h h
  obtain ⟨r', h2, _, _, h3⟩ := E id H[id] (List.getElem?_eq_getElem h)
  refine ⟨h1, h3 ?_⟩
  rw [h1, List.getElem?_eq_getElem h] at h2; cases h2; rfl

theorem old_ptr {a : Addr} {ids : List Nat} (ha : a.block < H.length) (h : VRel P HF ιF (.pointer (some a)) c) : VRel P (H ++ L) (packInj H.length ι ιF ids) (.pointer (some a)) c := by
  obtain ⟨h1, h2⟩ := inj_old E K ha
  cases h with
  | ptr hr hg hl => exact .ptr (by rw [List.getElem?_append_left ha, ← h1]; exact hr) hg (by simp only [packInj, if_pos ha, ← h2]; exact hl)
  | stalePtr hr hg hlt h1' => exact .stalePtr (by rw [List.getElem?_append_left ha, ← h1]; exact hr) hg hlt h1'
theorem old_sl {a : Addr} {len k : Nat} {ids : List Nat} (ha : a.block < H.length) (h : VRel P HF ιF (.slice (some a) len k) c) : VRel P (H ++ L) (packInj H.length ι ιF ids) (.slice (some a) len k) c := by
  obtain ⟨h1, h2⟩ := inj_old E K ha
  cases h with
  | sl hr hg hl hlen hcap => exact .sl (by rw [List.getElem?_append_left ha, ← h1]; exact hr) hg (by simp only [packInj, if_pos ha, ← h2]; exact hl) hlen hcap
  | slZero hr hg hl => exact .slZero (by rw [List.getElem?_append_left ha, ← h1]; exact hr) hg (by simp only [packInj, if_pos ha, ← h2]; exact hl)
  | staleSl hr hg hlt h1' => exact .staleSl (by rw [List.getElem?_append_left ha, ← h1]; exact hr) hg hlt h1'

theorem scrub_ok {ids : List Nat} (h : VRel P HF ιF v c) : VRel P (H ++ L) (packInj H.length ι ιF ids) (scrub H.length v) c := by
  cases v with
  | slice a len k =>
    cases a with
    | none => cases h with | nilSl => exact .nilSl | noSl => exact .noSl | trueNil => exact .trueNil
    | some a =>
      simp only [scrub]
      split
      · rename_i ha; exact old_sl E K ha h
      · exact .dead (h.one rfl)
  | pointer a =>
    cases a with
    | none => cases h; exact .nilPtr
    | some a =>
      simp only [scrub]
      split
      · rename_i ha; exact old_ptr E K ha h
      · exact .dead (h.one rfl)
  | func => exact .dead (h.one rfl)
  | agg => exact .bot
  | tuple => exact .bot
  | int => cases h; exact .int _ _
  | bool => cases h; exact .bool _
  | string => cases h; exact .str _
  | nilFunc => cases h; exact .nilFunc
  | chan r => cases h with | dead h1 => exact .dead h1
  | map r => cases h; exact .bot
  | iface g x => cases h; exact .glob
  | _ => cases h

/-- a header of a new row, told by its turn -/
def PackOk (H HF : Heap) (ι ιF : Inj) (P : Program) (v' c : Value) (ids : List Nat) : Prop :=
  ∀ idsF, ids <+: idsF → Good H.length HF idsF → VRel P (H ++ packed H.length HF idsF) (packInj H.length ι ιF idsF) v' c
omit E K in
theorem packed_get {n : Nat} {ids : List Nat} {k : Nat} {r : Row} {j : Nat} (hj : ids[k]? = some j) (hr : HF[j]? = some r) : (packed n HF ids)[k]? = some (packRow n r) := by
  simp [packed, hj, hr]

theorem packCell_ok {ids ids' : List Nat} (G : Good H.length HF ids) (h : VRel P HF ιF v c) (hp : packCell H.length HF v ids = some (v', ids')) :
    Good H.length HF ids' ∧ ids <+: ids' ∧ PackOk H HF ι ιF P v' c ids' := by
  have fresh : ∀ {a : Addr} {r : Row}, ¬ a.block < H.length → look HF a = some r → ids.contains a.block = false → Good H.length HF (ids ++ [a.block]) := by
    intro a r ha hr hn
    refine ⟨fun j hj => ?_, fun j hj => ?_, ?_⟩
    · simp at hj; rcases hj with hj | rfl
      · exact G.ge j hj
      · omega
    · simp at hj; rcases hj with hj | rfl
      · exact G.row j hj
      · exact ⟨r, (look_some hr).1⟩
    · rw [List.nodup_append]
      refine ⟨G.nodup, by simp, fun x hx y hy => ?_⟩
      simp at hy; subst hy
      intro e; subst e
      simp at hn; exact hn hx
  have newid : ∀ {a : Addr} {r : Row} {idsF : List Nat}, ¬ a.block < H.length → look HF a = some r → (ids ++ [a.block]) <+: idsF →
      (H ++ packed H.length HF idsF)[H.length + ids.length]? = some (packRow H.length r) ∧ packInj H.length ι ιF idsF (H.length + ids.length) = ιF a.block := by
    intro a r idsF ha hr hpre
    obtain ⟨tl, rfl⟩ := hpre
    have hk : (ids ++ [a.block] ++ tl)[ids.length]? = some a.block := by simp
    refine ⟨?_, ?_⟩
    · rw [List.getElem?_append_right (by omega), Nat.add_sub_cancel_left]; exact packed_get hk (look_some hr).1
    · simp only [packInj]; rw [if_neg (by omega), Nat.add_sub_cancel_left, hk]
  cases v with
  | slice a len k =>
    cases a with
    | none => simp [packCell] at hp; obtain ⟨rfl, rfl⟩ := hp; cases h with | nilSl => exact ⟨G, List.prefix_refl _, fun _ _ _ => .nilSl⟩ | noSl => exact ⟨G, List.prefix_refl _, fun _ _ _ => .noSl⟩ | trueNil => exact ⟨G, List.prefix_refl _, fun _ _ _ => .trueNil⟩
    | some a =>
      simp only [packCell] at hp
      split at hp
      · rename_i ha; cases hp; exact ⟨G, List.prefix_refl _, fun _ _ _ => old_sl E K ha h⟩
      · rename_i ha
        split at hp
        · rename_i r hr
          split at hp
          · cases hp
          · rename_i hn
            cases hp
            have hn' : ids.contains a.block = false := by simpa using hn
            refine ⟨fresh ha hr hn', List.prefix_append _ _, fun idsF hpre _ => ?_⟩
            obtain ⟨e1, e2⟩ := newid ha hr hpre
            rcases h.sl_inv hr with ⟨l, cap, hl, hle, hcap, rfl⟩ | ⟨rfl, ⟨l, hl⟩, b, rfl⟩
            · exact .sl (a := ⟨H.length + ids.length, a.off, some 0⟩) e1 rfl (e2.trans hl) hle hcap
            · exact .slZero (a := ⟨H.length + ids.length, a.off, some 0⟩) e1 rfl (e2.trans hl)
        · cases hp
  | pointer a =>
    cases a with
    | none => simp [packCell] at hp; obtain ⟨rfl, rfl⟩ := hp; cases h; exact ⟨G, List.prefix_refl _, fun _ _ _ => .nilPtr⟩
    | some a =>
      simp only [packCell] at hp
      split at hp
      · rename_i ha; cases hp; exact ⟨G, List.prefix_refl _, fun _ _ _ => old_ptr E K ha h⟩
      · rename_i ha
        split at hp
        · rename_i r hr
          split at hp
          · cases hp
          · rename_i hn
            cases hp
            have hn' : ids.contains a.block = false := by simpa using hn
            refine ⟨fresh ha hr hn', List.prefix_append _ _, fun idsF hpre _ => ?_⟩
            obtain ⟨e1, e2⟩ := newid ha hr hpre
            obtain ⟨l, hl, rfl⟩ := h.ptr_inv hr
            exact .ptr (a := ⟨H.length + ids.length, a.off, some 0⟩) e1 rfl (e2.trans hl)
        · cases hp
  | func => simp [packCell] at hp
  | agg => simp [packCell] at hp
  | tuple vs =>
    simp only [packCell] at hp
    split at hp
    · rename_i hs
      cases hp
      cases h with
      | tuple hc hr =>
        rename_i c'
        refine ⟨G, List.prefix_refl _, fun _ _ _ => .tuple hc fun i x y hx => ?_⟩
        have := (Array.getElem?_eq_some_iff.1 hx).1; omega
    · cases hp
  | int => simp [packCell] at hp; obtain ⟨rfl, rfl⟩ := hp; cases h; exact ⟨G, List.prefix_refl _, fun _ _ _ => .int _ _⟩
  | bool => simp [packCell] at hp; obtain ⟨rfl, rfl⟩ := hp; cases h; exact ⟨G, List.prefix_refl _, fun _ _ _ => .bool _⟩
  | string => simp [packCell] at hp; obtain ⟨rfl, rfl⟩ := hp; cases h; exact ⟨G, List.prefix_refl _, fun _ _ _ => .str _⟩
  | nilFunc => simp [packCell] at hp; obtain ⟨rfl, rfl⟩ := hp; cases h; exact ⟨G, List.prefix_refl _, fun _ _ _ => .nilFunc⟩
  | chan r => simp [packCell] at hp; obtain ⟨rfl, rfl⟩ := hp; cases h with | dead h1 => exact ⟨G, List.prefix_refl _, fun _ _ _ => .dead h1⟩
  | map r => simp [packCell] at hp; obtain ⟨rfl, rfl⟩ := hp; cases h; exact ⟨G, List.prefix_refl _, fun _ _ _ => .bot⟩
  | iface g x => simp [packCell] at hp; obtain ⟨rfl, rfl⟩ := hp; cases h; exact ⟨G, List.prefix_refl _, fun _ _ _ => .glob⟩
  | _ => cases h

omit E K in
theorem packList_ok {f : Value → List Nat → Option (Value × List Nat)}
    (hf : ∀ {v c v' ids ids'}, Good H.length HF ids → VRel P HF ιF v c → f v ids = some (v', ids') → Good H.length HF ids' ∧ ids <+: ids' ∧ PackOk H HF ι ιF P v' c ids') :
    ∀ (l cs : List Value) (ids : List Nat) {l' : List Value} {ids' : List Nat}, Good H.length HF ids → LRel P HF ιF l cs → packList f l ids = some (l', ids') →
      Good H.length HF ids' ∧ ids <+: ids' ∧ l'.length = cs.length ∧ ∀ (i : Nat) (x y : Value), l'[i]? = some x → cs[i]? = some y → PackOk H HF ι ιF P x y ids'
  | [], cs, ids, l', ids', G, hl, h => by
    obtain rfl := hl.nil_inv
    simp [packList] at h; obtain ⟨rfl, rfl⟩ := h
    exact ⟨G, List.prefix_refl _, rfl, by simp⟩
  | v :: l, cs, ids, l', ids', G, hl, h => by
    obtain ⟨c, cs', rfl, hv, hl'⟩ := hl.cons_inv
    simp only [packList] at h
    split at h
    · rename_i v1 ids1 h1
      obtain ⟨G1, p1, o1⟩ := hf G hv h1
      split at h
      · rename_i l2 ids2 h2
        cases h
        obtain ⟨G2, p2, hlen, o2⟩ := packList_ok hf l cs' ids1 G1 hl' h2
        refine ⟨G2, p1.trans p2, by simp [hlen], fun i x y hx hy => ?_⟩
        cases i with
        | zero => simp at hx hy; subst hx; subst hy; exact fun idsF hpre hg => o1 idsF (p2.trans hpre) hg
        | succ i => exact o2 i x y (by simpa using hx) (by simpa using hy)
      · cases h
    · cases h

theorem packVal_ok {ids ids' : List Nat} (G : Good H.length HF ids) (h : VRel P HF ιF v c) (hp : packVal H.length HF v ids = some (v', ids')) :
    Good H.length HF ids' ∧ ids <+: ids' ∧ PackOk H HF ι ιF P v' c ids' := by
  unfold packVal at hp
  split at hp
  · rename_i ids0 cs
    obtain ⟨cs', rfl, hs, hrel⟩ := agg_inv h
    split at hp
    · rename_i l ids1 h1
      cases hp
      obtain ⟨G1, p1, hlen, o1⟩ := packList_ok (packCell_ok E K) cs.toList cs'.toList _ G ⟨by simpa using hs, fun i x y hx hy => hrel i x y (by simpa using hx) (by simpa using hy)⟩ h1
      exact ⟨G1, p1, fun idsF hpre hg => .agg (by simpa using hlen) fun i x y hx hy => o1 i x y (by simpa using hx) (by simpa using hy) idsF hpre hg⟩
    · cases hp
  · exact packCell_ok E K G h hp

theorem pack_ok {ids : List Nat} (h : VRel P HF ιF v c) (hp : pack H.length HF v = some (v', ids)) : Good H.length HF ids ∧ PackOk H HF ι ιF P v' c ids := by
  have G0 : Good H.length HF [] := ⟨by simp, by simp, by simp⟩
  unfold pack at hp
  split at hp
  · rename_i vs
    split at hp
    · rename_i hs
      cases hp
      cases h with
      | tuple hc hr =>
        refine ⟨G0, fun _ _ _ => .tuple hc fun i x y hx => ?_⟩
        have := (Array.getElem?_eq_some_iff.1 hx).1; omega
    · split at hp
      · rename_i l ids1 h1
        cases hp
        cases h with
        | tuple hc hr =>
          rename_i c'
          obtain ⟨G1, p1, hlen, o1⟩ := packList_ok (packVal_ok E K) vs.toList c'.toList _ G0 ⟨by simpa using hc, fun i x y hx hy => hr i x y (by simpa using hx) (by simpa using hy)⟩ h1
          exact ⟨G1, fun idsF hpre hg => .tuple (by simpa using hlen) fun i x y hx hy => o1 i x y (by simpa using hx) (by simpa using hy) idsF hpre hg⟩
      · cases hp
  · obtain ⟨g, _, o⟩ := packVal_ok E K G0 h hp
    exact ⟨g, o⟩

omit E K in
theorem packExt {ids : List Nat} : Ext H ι (H ++ L) (packInj H.length ι ιF ids) := fun id r hr => by
  have hlt := (List.getElem?_eq_some_iff.1 hr).1
  exact ⟨r, by rw [List.getElem?_append_left hlt]; exact hr, rfl, Nat.le_refl _, fun _ => by simp only [packInj, if_pos hlt]⟩

theorem pack_rel {ids : List Nat} (R : Rel P B w0 frz ι H w) (RF : Rel P w.heap.size w H.length ιF HF wF) (G : Good H.length HF ids) :
    Rel P B w0 frz (packInj H.length ι ιF ids) (H ++ packed H.length HF ids) wF := by
  have hB := R.hB
  have hsz := RF.below.size
  have EE : Ext H ι (H ++ packed H.length HF ids) (packInj H.length ι ιF ids) := packExt
  have new : ∀ {id : Nat} {l : Loc}, ¬ id < H.length → packInj H.length ι ιF ids id = some l → ∃ j r, ids[id - H.length]? = some j ∧ j ∈ ids ∧ ιF j = some l ∧ HF[j]? = some r ∧
      (H ++ packed H.length HF ids)[id]? = some (packRow H.length r) := by
    intro id l hid hl
    simp only [packInj, if_neg hid] at hl
    cases hj : ids[id - H.length]? with
    | none => rw [hj] at hl; cases hl
    | some j =>
      rw [hj] at hl
      obtain ⟨r, hr⟩ := G.row j (List.mem_of_getElem? hj)
      exact ⟨j, r, rfl, List.mem_of_getElem? hj, hl, hr, by rw [List.getElem?_append_right (by omega)]; exact packed_get hj hr⟩
  refine ⟨R.below.trans (RF.below.mono hB), by omega, fun id l hl => ?_, fun id l r hl hr hf => ?_, R.gl⟩
  · by_cases hid : id < H.length
    · have hl' : ι id = some l := by simpa only [packInj, if_pos hid] using hl
      obtain ⟨h1, r, hr, hra⟩ := R.row id l hl'
      exact ⟨by omega, r, by rw [List.getElem?_append_left hid]; exact hr, (hra.mono EE).world fun a ha => RF.below.cell (by omega)⟩
    · obtain ⟨j, r, hj, hjm, hl', hr, hget⟩ := new hid hl
      obtain ⟨h1, r', hr', hra⟩ := RF.row j l hl'
      rw [hr] at hr'; cases hr'
      refine ⟨h1, _, hget, by simpa [packRow] using hra.1, fun i v hi => ?_⟩
      simp only [packRow, List.getElem?_map] at hi
      cases hc : r.cells[i]? with
      | none => rw [hc] at hi; cases hi
      | some v0 =>
        rw [hc] at hi; cases hi
        obtain ⟨c, g1, g2⟩ := hra.2 i v0 hc
        exact ⟨c, g1, scrub_ok E K g2⟩
  · by_cases hid : id < H.length
    · have hl' : ι id = some l := by simpa only [packInj, if_pos hid] using hl
      rw [List.getElem?_append_left hid] at hr
      obtain ⟨h1, ⟨cs, h2, h3⟩, h4⟩ := R.own id l r hl' hr hf
      have hb := (R.row id l hl').1
      refine ⟨h1, ⟨cs, by rw [RF.below.block _ hb]; exact h2, h3⟩, fun id' l' hl2 hbb => ?_⟩
      by_cases hid' : id' < H.length
      · exact h4 id' l' (by simpa only [packInj, if_pos hid'] using hl2) hbb
      · obtain ⟨j, r', hj, hjm, hlj, hrj, _⟩ := new hid' hl2
        have := (RF.own j l' r' hlj hrj (G.ge j hjm)).1
        omega
    · obtain ⟨j, r', hj, hjm, hl', hrj, hget⟩ := new hid hl
      rw [hget] at hr; cases hr
      obtain ⟨h1, ⟨cs, h2, h3⟩, h4⟩ := RF.own j l r' hl' hrj (G.ge j hjm)
      refine ⟨by omega, ⟨cs, by simpa [packRow] using h2, h3⟩, fun id' l2 hl2 hbb => ?_⟩
      by_cases hid' : id' < H.length
      · have := (R.row id' l2 (by simpa only [packInj, if_pos hid'] using hl2)).1
        omega
      · obtain ⟨j2, r2, hj2, hjm2, hlj2, hrj2, _⟩ := new hid' hl2
        have : j2 = j := h4 j2 l2 hlj2 hbb
        subst this
        have h5 : id - H.length < ids.length := (List.getElem?_eq_some_iff.1 hj).1
        have h6 : id' - H.length < ids.length := (List.getElem?_eq_some_iff.1 hj2).1
        have := (List.getElem?_inj h6 G.nodup).1 (hj2.trans hj.symm)
        omega
end
end Go.VM
/-! The whole: what the value machine says of a text is what the model does. -/
set_option linter.all false
namespace Go.VM
open Go Go.RowKit
variable {P : Program} {H H' HF : Heap} {ι ι' : Inj} {v c x y d s : Value} {B frz : Nat} {w0 w w' : World} {t t' : Env} {a : Act}

theorem Ext.len (h : Ext H ι H' ι') : H.length ≤ H'.length := by
  rcases Nat.lt_or_ge H'.length H.length with hlt | hge
  · obtain ⟨r, hr, _⟩ := h H'.length _ (List.getElem?_eq_getElem hlt)
    have := (List.getElem?_eq_some_iff.1 hr).1; omega
  · exact hge

theorem guard_ok' {ops : Array Oper} {o : Oper} {b : Bool} (E : ∀ j want d, o.guard = some (j, want) → (ops[j]?).bind (·.dst) = some d → VRel P H ι (t d) (a.tmps.getD d undef)) (h : vguard ops o t = some b) : Region.wanted o (yielded ops a.tmps) = b := by
  unfold vguard at h
  unfold Region.wanted
  split at h
  · rename_i hg; cases h; rw [hg]
  · rename_i j want hg
    rw [hg]
    simp only [yielded]
    split at h
    · rename_i hd; cases h; rw [hd]; rfl
    · rename_i dd hd
      rw [hd]
      have hv := E j want dd hg hd
      simp only [Option.bind_some]
      split at h
      · rename_i b' hb
        cases h
        rw [hb] at hv
        generalize hc : a.tmps.getD dd undef = cc at hv
        cases hv
        rw [Array.getD_eq_getD_getElem?] at hc
        cases hq : a.tmps[dd]? with
        | none => rw [hq] at hc; cases hc
        | some z => rw [hq] at hc; simp at hc; subst hc; rfl
      · rename_i vs hb
        split at h
        · rename_i hs
          cases h
          rw [hb] at hv
          generalize hc : a.tmps.getD dd undef = cc at hv
          cases hv with
          | tuple h1 h2 =>
            rw [Array.getD_eq_getD_getElem?] at hc
            cases hq : a.tmps[dd]? with
            | none => rfl
            | some z => rw [hq] at hc; simp at hc; subst hc; rfl
        · cases h
      · cases h

theorem guard_ok (E : ERel P H ι t a.tmps) {ops : Array Oper} {o : Oper} {b : Bool} (h : vguard ops o t = some b) : Region.wanted o (yielded ops a.tmps) = b := guard_ok' (fun _ _ d _ _ => E d) h

/-- what is to be known of calls -/
def CallOk (P : Program) (call : Calling) (frz : Nat) : Prop :=
  ∀ g l H v H', call g l H = some (v, H') → frz ≤ H.length → (∃ fn, P.funcs[g]? = some fn ∧ fn.body.isSome = true ∧ (fn.name == "runtime.NumGoroutine") = false) ∧
    ∀ B w0 ι w cl, Rel P B w0 frz ι H w → LRel P H ι l cl →
      Calls P g cl.toArray w fun e w' => ∃ c ι', e = .returned c ∧ VRel P H' ι' v c ∧ Ext H ι H' ι' ∧ Rel P B w0 frz ι' H' w'

theorem func_inv {fn : Fn} {f cp : Array Value} (h : VRel P H ι (.func fn f cp) c) : ∃ f' cp', c = .func fn f' cp' ∧ LRel P H ι f.toList f'.toList ∧ LRel P H ι cp.toList cp'.toList := by
  cases h with
  | func hf hc h1 h2 => exact ⟨_, _, rfl, ⟨by simpa using hf, fun i x y hx hy => h1 i x y (by simpa using hx) (by simpa using hy)⟩, ⟨by simpa using hc, fun i x y hx hy => h2 i x y (by simpa using hx) (by simpa using hy)⟩⟩

/-- one operation, in the calculus -/
theorem oper_ok' (R : Rel P B w0 frz ι H w) (hf0 : frz ≤ H.length) {a1 : Act} (E : ERel P H ι t a.tmps) {call : Calling} (hcall : CallOk P call frz) (o : Oper)
    (heq : execOp a1.eval o = execOp a.eval o) (h : vop P frz call o.op t H = some (v, H')) {next : Act → World → Prop} {Q : Exit → Act → World → Prop}
    (hn : ∀ c w' ι', VRel P H' ι' v c → Ext H ι H' ι' → Rel P B w0 frz ι' H' w' → next (a1.put o.dst c) w') : o.wp P a1 w next Q := by
  by_cases hnc : ∀ c f, o.op = .call c → c.callee ≠ .value f
  · obtain ⟨c, w', ι', hr, h1, h2, h3⟩ := op_ok R hf0 E o hnc h
    unfold Oper.wp
    rw [heq]
    rcases hr with hr | ⟨hr, rfl⟩
    · rw [hr]; exact hn c w' ι' h1 h2 h3
    · rw [hr]; exact hn undef w' ι' h1 h2 h3
  · simp only [Classical.not_forall, Classical.not_not] at hnc
    obtain ⟨c0, f, ho, hcal⟩ := hnc
    obtain ⟨callee, args, argTypes⟩ := c0
    simp only at hcal
    subst hcal
    rw [ho] at h
    simp only [vop] at h
    split at h
    · rename_i g first captured hev
      have hfv := ev_act E f
      rw [hev] at hfv
      obtain ⟨f', cp', hfe, hl1, hl2⟩ := func_inv hfv
      obtain ⟨⟨fn, hfn, hbody, hname⟩, hcalls⟩ := hcall _ _ _ _ _ h hf0
      have L : LRel P H ι (first.toList ++ args.toList.map (ev t) ++ captured.toList) (f'.toList ++ args.toList.map a.eval ++ cp'.toList) :=
        (hl1.append (LRel.of_map args.toList (ev t) a.eval fun x _ => ev_act E x)).append hl2
      have hC := hcalls B w0 ι w _ R L
      have hargs : (f'.toList ++ args.toList.map a.eval ++ cp'.toList).toArray = f' ++ args.map a.eval ++ cp' := by
        apply Array.ext'; simp
      rw [hargs] at hC
      unfold Oper.wp
      have hrun : (execOp a.eval o).run P w = .ok (.enter g (f' ++ args.map a.eval ++ cp')) w := by
        have hb3 : fn.body ≠ none := by intro e; rw [e] at hbody; simp at hbody
        have hn1 : fn.name ≠ "runtime.NumGoroutine" := by simpa using hname
        simp [execOp, ho, resolve, hfe, Deferred.ofValue, invoke, callFunc, hfn, hn1, hb3]
      rw [heq, hrun]
      show Calls P g _ w _
      refine hC.mono fun e w' he => ?_
      obtain ⟨c, ι', rfl, h1, h2, h3⟩ := he
      exact hn c w' ι' h1 h2 h3
    · cases h

theorem oper_ok (R : Rel P B w0 frz ι H w) (hf0 : frz ≤ H.length) (E : ERel P H ι t a.tmps) {call : Calling} (hcall : CallOk P call frz) (o : Oper)
    (h : vop P frz call o.op t H = some (v, H')) {next : Act → World → Prop} {Q : Exit → Act → World → Prop}
    (hn : ∀ c w' ι', VRel P H' ι' v c → Ext H ι H' ι' → Rel P B w0 frz ι' H' w' → next (a.put o.dst c) w') : o.wp P a w next Q := oper_ok' R hf0 E hcall o rfl h hn

theorem Act.put_size (a : Act) (d : Option Tmp) (c : Value) : (a.put d c).tmps.size = a.tmps.size := by
  cases d <;> simp [Act.put]
theorem Act.put_defers (a : Act) (d : Option Tmp) (c : Value) : (a.put d c).defers = a.defers := by
  cases d <;> rfl

/-- where a piece of text has come to -/
def Post (P : Program) (B : Nat) (w0 : World) (frz : Nat) (H : Heap) (ι : Inj) (t' : Env) (H' : Heap) (sz : Nat) (a' : Act) (w' : World) : Prop :=
  a'.defers = [] ∧ a'.tmps.size = sz ∧ ∃ ι', Ext H ι H' ι' ∧ Rel P B w0 frz ι' H' w' ∧ ERel P H' ι' t' a'.tmps

theorem vops_ok {call : Calling} (hcall : CallOk P call frz) (hkeep : CallKeeps frz call) {ops : Array Oper} {Q : Exit → Act → World → Prop} : ∀ (l : List Oper) (t : Env) (H : Heap) (ι : Inj) (a : Act) (w : World),
    vops P frz call ops l t H = some (t', H') → Rel P B w0 frz ι H w → frz ≤ H.length → ERel P H ι t a.tmps → a.defers = [] →
    (∀ o ∈ l, ∀ d, o.dst = some d → d < a.tmps.size) →
    (∀ a' w', Post P B w0 frz H ι t' H' a.tmps.size a' w' → Q .normal a' w') → wpList P ops Q l a w
  | [], t, H, ι, a, w, h, R, hf, E, hd, hdst, hQ => by
    simp [vops] at h
    obtain ⟨rfl, rfl⟩ := h
    exact hQ a w ⟨hd, rfl, ι, Ext.refl _ _, R, E⟩
  | o :: l, t, H, ι, a, w, h, R, hf, E, hd, hdst, hQ => by
    simp only [vops] at h
    have hdo : ∀ x, o.dst = some x → x < a.tmps.size := hdst o (by simp)
    have hdl : ∀ (c : Value), ∀ o' ∈ l, ∀ d, o'.dst = some d → d < (a.put o.dst c).tmps.size := fun c o' ho' d hd' => by
      rw [Act.put_size]; exact hdst o' (by simp [ho']) d hd'
    unfold wpList
    split at h
    · rename_i hg
      rw [if_pos (guard_ok E hg)]
      refine .inl ?_
      split at h
      · rename_i v1 H1 h1
        have k1 := vop_keeps hkeep hf h1
        refine oper_ok R hf E hcall o h1 fun c w' ι' g1 g2 g3 => ?_
        refine vops_ok hcall hkeep l _ _ ι' _ _ h g3 (Nat.le_trans hf k1.1) ?_ (by rw [Act.put_defers]; exact hd) (hdl c) fun a' w'' hp => ?_
        · exact (E.mono g2).put o.dst hdo g1 a.defers
        · obtain ⟨p1, p2, ι2, p3, p4, p5⟩ := hp
          exact hQ a' w'' ⟨p1, by rw [p2, Act.put_size], ι2, g2.trans p3, p4, p5⟩
      · cases h
    · rename_i hg
      rw [if_neg (by rw [guard_ok E hg]; simp)]
      refine vops_ok hcall hkeep l _ _ ι _ _ h R hf ?_ (by rw [Act.put_defers]; exact hd) (hdl undef) fun a' w'' hp => ?_
      · exact E.put o.dst hdo VRel.undef a.defers
      · obtain ⟨p1, p2, p3⟩ := hp
        exact hQ a' w'' ⟨p1, by rw [p2, Act.put_size], p3⟩
    · cases h

theorem nil_reg {ops : Array Oper} {Q : Exit → Act → World → Prop} (hn : nilReg ops = true) (t : Env) (H : Heap) (ι : Inj) (a : Act) (w : World) (R : Rel P B w0 frz ι H w) (E : ERel P H ι t a.tmps) (hd : a.defers = [])
    (hdst : ∀ o ∈ ops.toList, ∀ d, o.dst = some d → d < a.tmps.size) (hQ : ∀ a' w', Post P B w0 frz H ι (put t (nilDst ops) (.slice none 0 1)) H a.tmps.size a' w' → Q .normal a' w') : wpList P ops Q ops.toList a w := by
  unfold nilReg at hn
  split at hn
  · rename_i d op ty pos after hl
    unfold nilF at hn
    split at hn
    · have hdd : nilDst ops = some d := by unfold nilDst; rw [hl]
      rw [hdd] at hQ
      rw [hl] at hdst ⊢
      have hdl : ∀ x, some d = some x → x < a.tmps.size := fun x hx => hdst _ (List.mem_singleton.2 rfl) x hx
      unfold wpList
      rw [if_pos (show Region.wanted _ _ = true from rfl)]
      refine .inl ?_
      unfold Oper.wp
      have hr : (execOp a.eval ⟨some d, .assign (.const (.slice none 0 0)), ty, pos, after, none⟩).run P w = .ok (.value (.slice none 0 0)) w := rfl
      rw [hr]
      show wpList P ops Q [] (a.put (some d) (.slice none 0 0)) w
      unfold wpList
      refine hQ _ _ ⟨by rw [Act.put_defers]; exact hd, by rw [Act.put_size], ι, Ext.refl _ _, R, ?_⟩
      exact E.put (some d) hdl VRel.trueNil a.defers
    · cases hn
  · cases hn

theorem dstOk_region {n id : Nat} {ops : Array Oper} {dr : Bool} (h : dstOk n (.region id ops dr) = true) : ∀ o ∈ ops.toList, ∀ d, o.dst = some d → d < n := by
  intro o ho d hd
  simp only [dstOk, List.all_eq_true] at h
  have := h o ho
  simpa [hd] using this

theorem run_results (R : Rel P B w0 frz ι H w) (E : ERel P H ι t a.tmps) : ∀ (l : List ResultVar) (vs : List Value), vresults P t H l = some vs →
    ∃ cs, (l.mapM fun | .tmp t => pure (a.tmps.getD t undef) | .cell x t => do loadVar t (← asAddr (a.tmps.getD x undef)) : Sem (List Value)).run P w = .ok cs w ∧ LRel P H ι vs cs
  | [], vs, h => by simp [vresults] at h; subst h; exact ⟨[], rfl, rfl, by simp⟩
  | r :: l, vs, h => by
    simp only [vresults] at h
    split at h
    · rename_i v1 h1
      split at h
      · rename_i vs1 h2
        cases h
        obtain ⟨cs, g1, g2⟩ := run_results R E l vs1 h2
        have one : ∃ c, ((match r with | .tmp t => pure (a.tmps.getD t undef) | .cell x t => do loadVar t (← asAddr (a.tmps.getD x undef)) : Sem Value)).run P w = .ok c w ∧ VRel P H ι v1 c := by
          cases r with
          | tmp x => simp [vresult] at h1; subst h1; exact ⟨_, rfl, E x⟩
          | cell x ty =>
            simp only [vresult] at h1
            obtain ⟨c', g3, g4⟩ := load_ok R (E x) h1
            refine ⟨c', ?_, g4⟩
            have hv := E x
            unfold vload at h1
            split at h1
            · rename_i ad he
              split at h1
              · rename_i rr hrr
                rw [he] at hv
                obtain ⟨l', _, hc⟩ := hv.ptr_inv hrr
                rw [hc] at g3
                change (asAddr (a.tmps.getD x undef) >>= fun y => loadVar ty y : Sem Value).run P w = _
                rw [hc]
                exact g3
              · cases h1
            · rename_i gg kk oo he
              rw [he] at hv
              have hc : ∃ ad, a.tmps.getD x undef = .pointer (some ad) := by
                generalize a.tmps.getD x undef = cc at hv
                cases hv; exact ⟨_, rfl⟩
              obtain ⟨ad, hc⟩ := hc
              rw [hc] at g3
              change (asAddr (a.tmps.getD x undef) >>= fun y => loadVar ty y : Sem Value).run P w = _
              rw [hc]
              exact g3
            · cases h1
        obtain ⟨c, g5, g6⟩ := one
        refine ⟨c :: cs, ?_, by simp [g2.1], fun i x y hx hy => ?_⟩
        · simp only [List.mapM_cons, Sem.run_bind, g5, Result.andThen_ok, g1, Sem.run_pure]
        · cases i with
          | zero => simp at hx hy; subst hx; subst hy; exact g6
          | succ i => exact g2.2 i x y (by simpa using hx) (by simpa using hy)
      · cases h
    · cases h

theorem joined_rel {vs cs : List Value} (L : LRel P H ι vs cs) : VRel P H ι (joined vs) (if h : cs.toArray.size = 1 then cs.toArray[0] else .tuple cs.toArray) := by
  have hl := L.1
  match vs, cs, hl, L with
  | [v], [c], _, L => simpa [joined] using L.2 0 v c rfl rfl
  | [], [], _, _ => exact VRel.undef
  | v1 :: v2 :: vs, c1 :: c2 :: cs, _, L =>
    simp only [joined]
    rw [dif_neg (by simp)]
    exact .tuple (by simpa using L.1) fun i x y hx hy => L.2 i x y (by simpa using hx) (by simpa using hy)

theorem results_ok (R : Rel P B w0 frz ι H w) (E : ERel P H ι t a.tmps) {fn : Func} {vs : List Value} (h : vresults P t H fn.results.toList = some vs) :
    ∃ c, (results fn a.tmps).run P w = .ok c w ∧ VRel P H ι (joined vs) c := by
  obtain ⟨cs, h1, h2⟩ := run_results R E _ _ h
  refine ⟨_, ?_, joined_rel h2⟩
  unfold results
  rw [Array.mapM_eq_mapM_toList]
  simp only [Sem.run_bind, Sem.run_map]
  erw [h1]
  rfl
end Go.VM
