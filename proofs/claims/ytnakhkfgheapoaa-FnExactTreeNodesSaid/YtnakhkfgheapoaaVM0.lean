import Derived.Lib.AppendZerosOnto
import Derived.Calls
import Derived.Orders
import Derived.Below
import Derived.Tactics
import Derived.Laws.AppendOwn
import Derived.Laws.MakeOwn
/-! A value machine: the program's code run over rows of cells that are told apart by numbers, without capacities, draws and blocks. -/
set_option linter.all false
namespace Go.VM
open Go

structure Row where
  cells : List Value
  gen : Nat
  elem : TypeId

abbrev Heap := List Row
abbrev Env := Nat → Value

def dead : Value := .chan none
def bot : Value := .map none
def upd (t : Env) (d : Nat) (v : Value) : Env := fun x => if x = d then v else t x
def put (t : Env) : Option Tmp → Value → Env
  | some d, v => upd t d v
  | none, _ => t
def vlit : Value → Value
  | .int k n => .int k n
  | .bool b => .bool b
  | .string s => .string s
  | .nilFunc => .nilFunc
  | .pointer none => .pointer none
  | .slice none 0 0 => .slice none 0 0
  | _ => bot
def ev (t : Env) : Operand → Value
  | .tmp x => t x
  | .const v => vlit v
  | .global _ => bot
  | .func f => .func (.func f) #[] #[]
def argEnv (args : List Value) : Env := fun x => args.getD x undef

/-- a value of one cell that holds no address -/
def lit1 : Value → Bool
  | .int _ _ | .bool _ | .string _ | .nilFunc | .pointer none | .slice none 0 0 => true
  | _ => false

def look (H : Heap) (a : Addr) : Option Row :=
  match H[a.block]? with
  | some r => if a.spot = some r.gen then some r else none
  | none => none

/-- is it an aggregate, and of how many cells -/
def tsz (P : Program) (t : TypeId) : Option (Bool × Nat) :=
  match P.underlying t with
  | some (.struct _) | some (.array _ _) => (P.info? t).map fun i => (true, i.size)
  | some _ => (P.info? t).map fun i => (false, i.size)
  | none => none
def tzero (P : Program) (t : TypeId) : Option (List Value) :=
  match (P.info? t).bind (·.zero) with
  | some z => if z.cells.toList.all lit1 then some z.cells.toList else none
  | none => none
/-- a field: its place, is it an aggregate, its cells -/
def finfo (P : Program) (s : TypeId) (f : Nat) : Option (Nat × Bool × Nat) :=
  match P.underlying s with
  | some (.struct fs) => match fs[f]? with
    | some fd => match tsz P fd.type with
      | some (ag, n) => if n = 0 then none else some (fd.offset, ag, n)
      | none => none
    | none => none
  | _ => none
/-- a slice's elements: type, cells -/
def eltp (P : Program) (t : TypeId) : Option (TypeId × Nat) :=
  match P.underlying t with
  | some (.slice e) => match P.info? e with
    | some i => if 0 < i.size ∧ i.bytes ≤ 65536 ∧ (i.zero.any fun z => z.cells.size == i.size) then some (e, i.size) else none
    | none => none
  | _ => none

def one : Value → Bool
  | .agg _ | .tuple _ | .map _ => false
  | _ => true
def ones (l : List Value) : Bool := l.all one

def splice (l : List Value) (o : Nat) (cs : List Value) : List Value := l.take o ++ cs ++ l.drop (o + cs.length)

def vload (P : Program) (H : Heap) (t : TypeId) : Value → Option Value
  | .pointer (some a) => match look H a with
    | some r => match tsz P t with
      | some (true, n) => if a.off + n ≤ r.cells.length then some (.agg ((r.cells.drop a.off).take n).toArray) else none
      | some (false, _) => r.cells[a.off]?
      | none => none
    | none => none
  | _ => none

def vstore (P : Program) (frz : Nat) (H : Heap) (t : TypeId) (x : Value) : Value → Option Heap
  | .pointer (some a) => match look H a with
    | some r => match tsz P t with
      | some (_, n) => if frz ≤ a.block ∧ x.cells.size = n ∧ a.off + n ≤ r.cells.length ∧ ones x.cells.toList = true
          then some (H.set a.block { r with cells := splice r.cells a.off x.cells.toList }) else none
      | none => none
    | none => none
  | _ => none

def isSl (P : Program) (t : TypeId) : Bool := match P.underlying t with | some (.slice _) => true | _ => false
def isStr (P : Program) (t : TypeId) : Bool := match P.underlying t with | some .string => true | _ => false
def newp (H : Heap) : Value := .pointer (some ⟨H.length, 0, some 0⟩)
def vfieldAddr (P : Program) (H : Heap) (s : TypeId) (f : Nat) : Value → Option Value
  | .pointer (some a) => match look H a with
    | some _ => match finfo P s f with
      | some (o, _, _) => some (.pointer (some ⟨a.block, a.off + o, a.spot⟩))
      | none => none
    | none => none
  | _ => none
def part' (ag : Bool) (n o : Nat) (cs : List Value) : Option Value :=
  if ag then some (.agg ((cs.drop o).take n).toArray) else cs[o]?
def vfield (P : Program) (s : TypeId) (f : Nat) : Value → Option Value
  | .agg cs => match finfo P s f with
    | some (o, ag, n) => part' ag n o cs.toList
    | none => none
  | _ => none
def vindexAddr (P : Program) (H : Heap) (t : TypeId) : Value → Value → Option Value
  | .slice (some a) len _, .int _ i => match look H a with
    | some _ => match eltp P t with
      | some (_, n) => if 0 ≤ i ∧ i < len then some (.pointer (some ⟨a.block, a.off + i.toNat * n, a.spot⟩)) else none
      | none => none
    | none => none
  | _, _ => none
def vindex (P : Program) (t : TypeId) : Value → Value → Option Value
  | .string s, .int _ i => match P.underlying t with
    | some .string => if 0 ≤ i then (match s[i.toNat]? with | some b => some (.int .u8 b.toNat) | none => none) else none
    | _ => none
  | .agg cs, .int _ i => match P.underlying t with
    | some (.array n e) => match tsz P e with
      | some (ag, k) => if 0 ≤ i ∧ i < n then part' ag k (i.toNat * k) cs.toList else none
      | none => none
    | _ => none
  | _, _ => none
def vbound (d : Nat) : Option Value → Option Int
  | none => some d
  | some (.int _ i) => some i
  | _ => none
def vslice (P : Program) (H : Heap) (t : TypeId) (lo hi : Option Value) : Value → Option Value
  | .slice none 0 0 => match eltp P t, vbound 0 lo, vbound 0 hi with
    | some _, some 0, some 0 => some (.slice none 0 0)
    | _, _, _ => none
  | .slice (some a) len _ => match look H a with
    | some r => match eltp P t, vbound 0 lo, vbound len hi with
      | some (e, n), some l, some h => if r.elem = e ∧ 0 ≤ l ∧ l ≤ h ∧ h ≤ len then some (.slice (some ⟨a.block, a.off + l.toNat * n, a.spot⟩) (h.toNat - l.toNat) 0) else none
      | _, _, _ => none
    | none => none
  | .string s => match vbound 0 lo, vbound s.size hi with
    | some l, some h => if isStr P t = true ∧ 0 ≤ l ∧ l ≤ h ∧ h ≤ s.size then some (.string (s.extract l.toNat h.toNat)) else none
    | _, _ => none
  | _ => none

def icmp (op : BinOp) (x y : Int) : Option Bool :=
  match op with
  | .eql => some (decide (x = y)) | .neq => some (!decide (x = y)) | .lss => some (decide (x < y)) | .leq => some (decide (x ≤ y))
  | .gtr => some (decide (y < x)) | .geq => some (decide (y ≤ x)) | _ => none
def iarith (op : BinOp) (k : IntKind) (x y : Int) : Option Int :=
  match op with
  | .add => some (k.wrap (x + y)) | .sub => some (k.wrap (x - y)) | .mul => some (k.wrap (x * y))
  | .quo => if y = 0 then none else some (k.wrap (x.tdiv y))
  | .rem => if y = 0 then none else some (x.tmod y)
  | .and => some (k.wrap (BitVec.ofInt k.bits x &&& BitVec.ofInt k.bits y).toNat)
  | .or => some (k.wrap (BitVec.ofInt k.bits x ||| BitVec.ofInt k.bits y).toNat)
  | .xor => some (k.wrap (BitVec.ofInt k.bits x ^^^ BitVec.ofInt k.bits y).toNat)
  | .andNot => some (k.wrap (BitVec.ofInt k.bits x &&& ~~~ (BitVec.ofInt k.bits y)).toNat)
  | _ => none
def ishift (op : BinOp) (k : IntKind) (x y : Int) : Option Int :=
  if y < 0 then none else
  match op with
  | .shl => some (k.wrap (x * 2 ^ min y.toNat k.bits))
  | .shr => some (x.fdiv (2 ^ min y.toNat k.bits))
  | _ => none
def vbin (P : Program) (op : BinOp) (t : TypeId) : Value → Value → Option Value
  | .int k x, .int k' y =>
    match op with
    | .shl | .shr => (ishift op k x y).map (.int k)
    | .add | .sub | .mul | .quo | .rem | .and | .or | .xor | .andNot => if k = k' then (iarith op k x y).map (.int k) else none
    | _ => if k = k' then (icmp op x y).map .bool else none
  | .bool x, .bool y => match P.underlying t, op with
    | some .bool, .eql => some (.bool (x == y))
    | some .bool, .neq => some (.bool (x != y))
    | _, _ => none
  | .string x, .string y => match op with
    | .eql => some (.bool (x.toList == y.toList))
    | .neq => some (.bool (!(x.toList == y.toList)))
    | .add => if x.size + y.size ≤ 1073741824 then some (.string (x ++ y)) else none
    | .lss => some (.bool (Op.bytesLess x.toList y.toList))
    | _ => none
  | _, _ => none
def vun (op : UnOp) : Value → Option Value
  | .bool b => match op with | .not => some (.bool !b) | _ => none
  | .int k n => match op with | .neg => some (.int k (k.wrap (0 - n))) | _ => none
  | _ => none
def vconvert (P : Program) (d : TypeId) : Value → Option Value
  | .int _ n => match P.underlying d with
    | some (.int k) => some (.int k (k.wrap n))
    | _ => none
  | .string x => match P.underlying d with
    | some .string => some (.string x)
    | _ => none
  | _ => none

/-- the cells that an append adds -/
def vsrc (n : Nat) (H : Heap) : Value → Option (Nat × List Value)
  | .slice none 0 0 => some (0, [])
  | .slice (some a) len _ => match look H a with
    | some r => if a.off + len * n ≤ r.cells.length then some (len, (r.cells.drop a.off).take (len * n)) else none
    | none => none
  | _ => none
/-- the cells that stay before an append -/
def vkeep (l : List Value) (o k : Nat) : List Value := if o + k = l.length then l.drop o else (l.drop o).take k
/-- append(nil, make([]T, k)...): the translation hands the number k in the place of a slice; what the new row holds is not told -/
def vappendZ (P : Program) (H : Heap) (t u : TypeId) (s x : Value) : Option (Value × Heap) :=
  match P.underlying u with
  | some (.int _) => match eltp P t with
    | some (e, n) => match s with
      | .slice none 0 0 => match x with
        | .int _ k => if 0 < n ∧ 0 < k ∧ k ≤ 1073741824 then some (.slice (some ⟨H.length, 0, some 0⟩) k.toNat 0, H ++ [⟨[], 0, e⟩]) else none
        | _ => none
      | _ => none
    | none => none
  | _ => none
def vappend (P : Program) (frz : Nat) (H : Heap) (t u : TypeId) (s x : Value) : Option (Value × Heap) :=
  if t = u then
  match eltp P t with
  | some (e, n) => match vsrc n H x with
    | some (m, news) => match s with
      | .slice none 0 0 => if m = 0 then some (.slice none 0 0, H) else
          if m ≤ 1073741824 ∧ ones news = true then some (.slice (some ⟨H.length, 0, some 0⟩) m 0, H ++ [⟨news, 0, e⟩]) else none
      | .slice (some a) len _ => match look H a with
        | some r => if m = 0 then some (s, H) else
            if frz ≤ a.block ∧ a.off + len * n ≤ r.cells.length ∧ r.elem = e ∧ len + m ≤ 1073741824 ∧ ones r.cells = true ∧ ones news = true
            then some (.slice (some ⟨a.block, 0, some (r.gen + 1)⟩) (len + m) 0, H.set a.block ⟨vkeep r.cells a.off (len * n) ++ news, r.gen + 1, e⟩) else none
        | none => none
      | _ => none
    | none => none
  | none => none
  else vappendZ P H t u s x
def vcopy (P : Program) (frz : Nat) (H : Heap) (t u : TypeId) (s x : Value) : Option (Value × Heap) :=
  if t = u then
  match eltp P t with
  | some (_, n) => match vsrc n H x with
    | some (m, news) => match s with
      | .slice none 0 0 => some (.int .i64 0, H)
      | .slice (some a) len _ => match look H a with
        | some r => if frz ≤ a.block ∧ a.off + len * n ≤ r.cells.length ∧ ones news = true
            then some (.int .i64 (Nat.min m len), H.set a.block { r with cells := splice r.cells a.off (news.take (Nat.min m len * n)) }) else none
        | none => none
      | _ => none
    | none => none
  | none => none
  else none
def vlen (P : Program) (H : Heap) (t : TypeId) : Value → Option Value
  | .string s => if isStr P t = true then some (.int .i64 s.size) else none
  | .slice none 0 0 => if isSl P t = true then some (.int .i64 0) else none
  | .slice (some a) n _ => match look H a with
    | some _ => if isSl P t = true then some (.int .i64 n) else none
    | none => none
  | _ => none
/-- cap is told of the empty slice alone -/
def vcap (P : Program) (t : TypeId) : Value → Option Value
  | .slice none 0 0 => if isSl P t = true then some (.int .i64 0) else none
  | _ => none
def vmax2 : Value → Value → Option Value
  | .int k x, .int _ y => some (.int k (if x < y then y else x))
  | _, _ => none
def vmin2 : Value → Value → Option Value
  | .int k x, .int _ y => some (.int k (if y < x then y else x))
  | _, _ => none
def vfold (f : Value → Value → Option Value) : Value → List Value → Option Value
  | x, [] => some x
  | x, y :: l => match f x y with | some z => vfold f z l | none => none
def vbuiltin (P : Program) (frz : Nat) (H : Heap) (b : Builtin) (ts : List TypeId) (args : List Value) : Option (Value × Heap) :=
  match b with
  | .len => match ts, args with
    | t :: _, x :: _ => (vlen P H t x).map (·, H)
    | _, _ => none
  | .cap => match ts, args with
    | t :: _, x :: _ => (vcap P t x).map (·, H)
    | _, _ => none
  | .append => match ts, args with
    | [t, u], [s, x] => vappend P frz H t u s x
    | _, _ => none
  | .copy => match ts, args with
    | [t, u], [s, x] => vcopy P frz H t u s x
    | _, _ => none
  | .max => match args with
    | x :: l => (vfold vmax2 x l).map (·, H)
    | _ => none
  | .min => match args with
    | x :: l => (vfold vmin2 x l).map (·, H)
    | _ => none
  | _ => none

def vmake (P : Program) (H : Heap) (t : TypeId) : Value → Value → Option (Value × Heap)
  | .int _ l, .int _ c => match eltp P t with
    | some (e, _) => match tzero P e with
      | some z => if 0 ≤ l ∧ l ≤ c ∧ c ≤ 1073741824 then some (.slice (some ⟨H.length, 0, some 0⟩) l.toNat 0, H ++ [⟨(List.replicate l.toNat z).flatten, 0, e⟩]) else none
      | none => none
    | none => none
  | _, _ => none

/-- the parts of a composite, each laid at its place -/
def vfill (place : Nat → Option (Nat × Nat)) (cells : List Value) : List (Nat × Value) → Option (List Value)
  | [] => some cells
  | (i, v) :: rest => match place i with
    | some (o, n) => if v.cells.size = n ∧ o + n ≤ cells.length ∧ ones v.cells.toList = true then vfill place (splice cells o v.cells.toList) rest else none
    | none => none
/-- where the parts of a struct or an array lie -/
def bplaces (P : Program) (t : TypeId) : Option (List (Nat × Nat)) :=
  match P.underlying t with
  | some (.struct fs) => fs.toList.mapM fun f => (P.info? f.type).map fun i => (f.offset, i.size)
  | some (.array n e) => (P.info? e).map fun i => (List.range n).map fun j => (j * i.size, i.size)
  | _ => none
def vbuild (P : Program) (t : TypeId) (parts : List (Nat × Value)) : Option Value :=
  match bplaces P t with
  | some pl => match tzero P t with
    | some z => match vfill (fun i => pl[i]?) z parts with
      | some cs => some (.agg cs.toArray)
      | none => none
    | none => none
  | none => none
def vbuildSlice (P : Program) (H : Heap) (t : TypeId) (len : Nat) (parts : List (Nat × Value)) : Option (Value × Heap) :=
  match eltp P t with
  | some (e, n) => match tzero P e with
    | some z => if len * n ≤ 65536 then
        match vfill (fun i => some (i * n, n)) (List.replicate len z).flatten parts with
        | some cs => some (.slice (some ⟨H.length, 0, some 0⟩) len 0, H ++ [⟨cs, 0, e⟩])
        | none => none
        else none
    | none => none
  | none => none

abbrev Calling := Nat → List Value → Heap → Option (Value × Heap)

def vop (P : Program) (frz : Nat) (call : Calling) (o : Op) (t : Env) (H : Heap) : Option (Value × Heap) :=
  match o with
  | .move x | .assign x => some (ev t x, H)
  | .pick c a b => match ev t c with | .bool true => some (ev t a, H) | .bool false => some (ev t b, H) | _ => none
  | .alloc e => match tzero P e with | some z => some (newp H, H ++ [⟨z, 0, e⟩]) | none => none
  | .box e x => if ones (ev t x).cells.toList = true then some (newp H, H ++ [⟨(ev t x).cells.toList, 0, e⟩]) else none
  | .build ty parts => (vbuild P ty (parts.toList.map fun x => (x.1, ev t x.2))).map (·, H)
  | .buildSlice ty len parts => vbuildSlice P H ty len (parts.toList.map fun x => (x.1, ev t x.2))
  | .load ty a => (vload P H ty (ev t a)).map (·, H)
  | .store ty a x => (vstore P frz H ty (ev t x) (ev t a)).map (undef, ·)
  | .nilCheck x => match ev t x with
    | .pointer (some a) => match look H a with | some _ => some (.pointer (some a), H) | none => none
    | _ => none
  | .binOp op ty x y _ => (vbin P op ty (ev t x) (ev t y)).map (·, H)
  | .unOp op _ x => (vun op (ev t x)).map (·, H)
  | .convert s d x => if (P.underlying s).isSome = true then (vconvert P d (ev t x)).map (·, H) else none
  | .makeFunc fn first captured => some (.func fn (first.map (ev t)) (captured.map (ev t)), H)
  | .makeSlice ty l c => vmake P H ty (ev t l) (ev t c)
  | .slice ty x lo hi none => (vslice P H ty (lo.map (ev t)) (hi.map (ev t)) (ev t x)).map (·, H)
  | .fieldAddr s x f => (vfieldAddr P H s f (ev t x)).map (·, H)
  | .field s x f => (vfield P s f (ev t x)).map (·, H)
  | .indexAddr ty x i => (vindexAddr P H ty (ev t x) (ev t i)).map (·, H)
  | .index ty x i => (vindex P ty (ev t x) (ev t i)).map (·, H)
  | .extract x i => match ev t x with | .tuple vs => (vs[i]?).map (·, H) | _ => none
  | .call c => match c.callee with
    | .builtin b => vbuiltin P frz H b c.argTypes.toList (c.args.toList.map (ev t))
    | .value f => match ev t f with
      | .func (.func g) first captured => call g (first.toList ++ c.args.toList.map (ev t) ++ captured.toList) H
      | _ => none
    | .invoke _ _ => none
  | _ => none

def vguard (ops : Array Oper) (o : Oper) (t : Env) : Option Bool :=
  match o.guard with
  | none => some true
  | some (j, want) => match (ops[j]?).bind (·.dst) with
    | none => some false
    | some d => match t d with
      | .bool b => some (b == want)
      | .tuple vs => if vs.size = 0 then some false else none
      | _ => none

def vops (P : Program) (frz : Nat) (call : Calling) (ops : Array Oper) : List Oper → Env → Heap → Option (Env × Heap)
  | [], t, H => some (t, H)
  | o :: rest, t, H => match vguard ops o t with
    | some true => match vop P frz call o.op t H with
      | some (v, H') => vops P frz call ops rest (put t o.dst v) H'
      | none => none
    | some false => vops P frz call ops rest (put t o.dst undef) H
    | none => none

inductive Out where
  | normal | ret | exit (id : Nat)

/-- what the machine is told of a function: 0: it changes no row that was there, and what it made is packed; 1: it changes none; 2: it may change rows -/
structure Ctx where
  P : Program
  mode : Nat → Nat
  ext : Nat → Option (Nat → List Value → Heap → Option (Value × Heap))

def scrub (n : Nat) : Value → Value
  | .slice (some a) len c => if a.block < n then .slice (some a) len c else dead
  | .pointer (some a) => if a.block < n then .pointer (some a) else dead
  | .func _ _ _ => dead
  | .agg _ => bot
  | .tuple _ => bot
  | v => v
def packRow (n : Nat) (r : Row) : Row := ⟨r.cells.map (scrub n), 0, r.elem⟩
/-- a cell of a result: rows that the call made are laid behind the n old ones -/
def packCell (n : Nat) (H : Heap) : Value → List Nat → Option (Value × List Nat)
  | .slice (some a) len c, ids => if a.block < n then some (.slice (some a) len c, ids) else
      match look H a with
      | some _ => if ids.contains a.block then none else some (.slice (some ⟨n + ids.length, a.off, some 0⟩) len 0, ids ++ [a.block])
      | none => none
  | .pointer (some a), ids => if a.block < n then some (.pointer (some a), ids) else
      match look H a with
      | some _ => if ids.contains a.block then none else some (.pointer (some ⟨n + ids.length, a.off, some 0⟩), ids ++ [a.block])
      | none => none
  | .func _ _ _, _ => none
  | .agg _, _ => none
  | .tuple vs, ids => if vs.size = 0 then some (.tuple vs, ids) else none
  | v, ids => some (v, ids)
def packList (f : Value → List Nat → Option (Value × List Nat)) : List Value → List Nat → Option (List Value × List Nat)
  | [], ids => some ([], ids)
  | v :: l, ids => match f v ids with
    | some (v', ids') => match packList f l ids' with
      | some (l', ids'') => some (v' :: l', ids'')
      | none => none
    | none => none
def packVal (n : Nat) (H : Heap) : Value → List Nat → Option (Value × List Nat)
  | .agg cs, ids => match packList (packCell n H) cs.toList ids with
    | some (l, ids') => some (.agg l.toArray, ids')
    | none => none
  | v, ids => packCell n H v ids
def pack (n : Nat) (H : Heap) : Value → Option (Value × List Nat)
  | .tuple vs => if vs.size = 0 then some (.tuple vs, []) else match packList (packVal n H) vs.toList [] with
    | some (l, ids') => some (.tuple l.toArray, ids')
    | none => none
  | v => packVal n H v []
def packed (n : Nat) (H : Heap) (ids : List Nat) : List Row := ids.map fun i => packRow n ((H[i]?).getD ⟨[], 0, 0⟩)

def vresult (P : Program) (t : Env) (H : Heap) : ResultVar → Option Value
  | .tmp x => some (t x)
  | .cell a ty => vload P H ty (t a)
def vresults (P : Program) (t : Env) (H : Heap) : List ResultVar → Option (List Value)
  | [] => some []
  | r :: l => match vresult P t H r with
    | some v => match vresults P t H l with
      | some vs => some (v :: vs)
      | none => none
    | none => none
def joined : List Value → Value
  | [v] => v
  | l => .tuple l.toArray

/-- what is asked of a text: each slot that is written lies in the frame -/
def dstOk (n : Nat) : Code → Bool
  | .region _ ops _ => ops.toList.all fun o => match o.dst with | some d => decide (d < n) | none => true
  | .seq a b => dstOk n a && dstOk n b
  | .cond _ a b => dstOk n a && dstOk n b
  | .block _ c => dstOk n c
  | .loop c => dstOk n c
  | _ => true

def fnOk (fn : Func) (c : Code) : Bool := dstOk fn.ntmps c && !(fn.name == "runtime.NumGoroutine")
/-- it looks at no row and changes none -/
def pureB : Op → Bool
  | .move _ | .assign _ | .pick .. | .binOp .. | .unOp .. | .convert .. | .fieldAddr .. | .field .. | .indexAddr .. | .index .. | .extract .. | .nilCheck _ | .slice .. | .build .. | .makeFunc .. => true
  | .call c => match c.callee with | .builtin .len | .builtin .max | .builtin .min => true | _ => false
  | _ => false
/-- it may change rows -/
def writerB (mode : Nat → Nat) : Op → Bool
  | .store .. => true
  | .call c => match c.callee with
    | .builtin .append | .builtin .copy => true
    | .builtin _ => false
    | .value (.func g) => mode g == 2
    | _ => true
  | _ => false
def bmask (prev : List Nat) (o : Oper) : Nat := o.after.toList.foldl (fun s e => if Region.binds .any e = true then s ||| 2 ^ e.on ||| prev.getD e.on 0 else s) 0
def bmasks : List Oper → List Nat → List Nat
  | [], acc => acc
  | o :: l, acc => bmasks l (acc ++ [bmask acc o])
def firstWriter (mode : Nat → Nat) : List Oper → Nat → Nat
  | [], n => n
  | o :: l, n => if writerB mode o.op = true then n else firstWriter mode l (n + 1)
/-- the order that a region draws does not matter -/
def drawOk (C : Ctx) (ops : Array Oper) : Bool :=
  (List.range ops.size).all fun i => match ops[i]? with
    | none => true
    | some o => (o.after.toList.all fun e => !Region.binds .any e || decide (e.on < i)) &&
      (List.range i).all fun j => match ops[j]? with
        | none => true
        | some q => (((bmasks ops.toList []).getD i 0).testBit j || q.apart ops o) && (decide (i < firstWriter C.mode ops.toList 0) || pureB q.op || ((bmasks ops.toList []).getD i 0).testBit j)

def vfinish (C : Ctx) (g : Nat) (fn : Func) (H : Heap) (t' : Env) (H' : Heap) : Option (Value × Heap) :=
  match vresults C.P t' H' fn.results.toList with
  | some vs => if C.mode g = 0 then
      match pack H.length H' (joined vs) with
      | some (v, ids) => some (v, H ++ packed H.length H' ids)
      | none => none
      else some (joined vs, H')
  | none => none
def vcallWith (C : Ctx) (exec : Nat → Code → Env → Heap → Option (Out × Env × Heap)) (frz : Nat) : Calling := fun g args H =>
  match C.P.funcs[g]? with
  | some fn => match fn.body with
    | some body => if fnOk fn body = true then
        match exec (if C.mode g = 2 then frz else H.length) body (argEnv args) H with
        | some (.normal, t', H') => vfinish C g fn H t' H'
        | some (.ret, t', H') => vfinish C g fn H t' H'
        | _ => none
      else none
    | none => none
  | none => none
def vexecF (C : Ctx) : Nat → Nat → Code → Env → Heap → Option (Out × Env × Heap)
  | 0, _, _, _, _ => none
  | k + 1, frz, c, t, H => match c with
    | .skip => some (.normal, t, H)
    | .label _ => some (.normal, t, H)
    | .ret => some (.ret, t, H)
    | .exit id => some (.exit id, t, H)
    | .seq a b => match vexecF C k frz a t H with
      | some (.normal, t', H') => vexecF C k frz b t' H'
      | r => r
    | .cond x a b => match ev t x with
      | .bool true => vexecF C k frz a t H
      | .bool false => vexecF C k frz b t H
      | _ => none
    | .block id body => match vexecF C k frz body t H with
      | some (.exit id', t', H') => if id' = id then some (.normal, t', H') else some (.exit id', t', H')
      | r => r
    | .loop body => match vexecF C k frz body t H with
      | some (.normal, t', H') => vexecF C k frz (.loop body) t' H'
      | r => r
    | .region _ ops draw => if (draw = true → drawOk C ops = true) then
        match vops C.P frz (vcallWith C (vexecF C k) frz) ops ops.toList t H with
        | some (t', H') => some (.normal, t', H')
        | none => none
        else none
    | _ => none
end Go.VM
