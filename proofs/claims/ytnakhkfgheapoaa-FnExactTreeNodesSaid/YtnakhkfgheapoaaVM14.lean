import Derived.Test.YtnakhkfgheapoaaVM13
/-! Running texts by rewriting. -/
set_option linter.all false
namespace Go.VM
open Go
variable {P : Program} {H H' L : Heap} {v w x y : Value} {frz : Nat} {t t' : Env} {C : Ctx} {α : Type}

def vret (C : Ctx) (g : Nat) (fn : Func) (H : Heap) (r : Option (Out × Env × Heap)) : Option (Value × Heap) :=
  match r with
  | some (.normal, t', H') => vfinish C g fn H t' H'
  | some (.ret, t', H') => vfinish C g fn H t' H'
  | _ => none
theorem vcall_enter {g : Nat} {l : List Value} {fn : Func} {body : Code} (hf : C.P.funcs[g]? = some fn) (hb : fn.body = some body) (hok : fnOk fn body = true) :
    vcall C frz g l H = vret C g fn H (vexec C (if C.mode g = 2 then frz else H.length) body (argEnv l) H) := by
  rw [vcall_eq]; unfold vcallWith; simp only [hf, hb, hok, if_true]; rfl

/-- a test, and what is needed: what stands behind them is not looked at before they are decided -/
def vif (b : Bool) (x y : Option α) : Option α := match b with | true => x | false => y
def vneed (p : Prop) [Decidable p] (x : Option α) : Option α := if p then x else none
@[congr] theorem vif_congr {b b' : Bool} {x y : Option α} (h : b = b') : vif b x y = vif b' x y := by rw [h]
@[congr] theorem vneed_congr {p p' : Prop} [Decidable p] [Decidable p'] {x : Option α} (h : p = p') : vneed p x = vneed p' x := by subst h; unfold vneed; split <;> rfl
@[simp] theorem vif_true (x y : Option α) : vif true x y = x := rfl
@[simp] theorem vif_false (x y : Option α) : vif false x y = y := rfl
@[simp] theorem vneed_true (x : Option α) : vneed True x = x := rfl
@[simp] theorem vneed_false (x : Option α) : vneed False x = none := rfl
@[simp] theorem vif_not (b : Bool) (x y : Option α) : vif (!b) x y = vif b y x := by cases b <;> rfl
theorem vif_eq {b : Bool} {x y z : Option α} (h1 : b = true → x = z) (h2 : b = false → y = z) : vif b x y = z := by cases b; exact h2 rfl; exact h1 rfl
theorem vneed_eq {p : Prop} [Decidable p] {x z : Option α} (h : p) (h1 : x = z) : vneed p x = z := by unfold vneed; rw [if_pos h, h1]
@[simp] theorem ite_need (p : Prop) [Decidable p] (x : Option α) : (if p then x else none) = vneed p x := rfl
@[simp] theorem map_need {β : Type} (p : Prop) [Decidable p] (x : Option α) (f : α → β) : (vneed p x).map f = vneed p (x.map f) := by unfold vneed; split <;> rfl
@[simp] theorem map_vif {β : Type} (p : Bool) (x y : Option α) (f : α → β) : (vif p x y).map f = vif p (x.map f) (y.map f) := by cases p <;> rfl

@[simp] theorem upd_same (t : Env) (d : Nat) (v : Value) : upd t d v d = v := by simp [upd]
@[simp] theorem upd_ne (t : Env) (d : Nat) (v : Value) (x : Nat) (h : x ≠ d) : upd t d v x = t x := by simp [upd, h]
@[simp] theorem put_some (t : Env) (d : Nat) (v : Value) : put t (some d) v = upd t d v := rfl
@[simp] theorem put_none (t : Env) (v : Value) : put t none v = t := rfl
attribute [simp] ev vlit
@[simp] theorem argEnv_zero (a : Value) (l : List Value) : argEnv (a :: l) 0 = a := rfl
@[simp] theorem argEnv_succ (a : Value) (l : List Value) (n : Nat) : argEnv (a :: l) (n + 1) = argEnv l n := rfl

section
variable (call : Calling)
@[simp] theorem vop_move (x : Operand) : vop P frz call (.move x) t H = some (ev t x, H) := rfl
@[simp] theorem vop_assign (x : Operand) : vop P frz call (.assign x) t H = some (ev t x, H) := rfl
def vpick (c a b : Value) : Option Value := match c with | .bool true => some a | .bool false => some b | _ => none
@[simp] theorem vpick_bool (c : Bool) (a b : Value) : vpick (.bool c) a b = some (if c = true then a else b) := by cases c <;> rfl
@[simp] theorem vop_pick (c a b : Operand) : vop P frz call (.pick c a b) t H = (vpick (ev t c) (ev t a) (ev t b)).map (·, H) := by
  simp only [vop, vpick]; generalize ev t c = cc; cases cc <;> first | rfl | (rename_i b; cases b <;> rfl)
@[simp] theorem vop_load (ty : TypeId) (a : Operand) : vop P frz call (.load ty a) t H = (vload P H ty (ev t a)).map (·, H) := rfl
@[simp] theorem vop_store (ty : TypeId) (a x : Operand) : vop P frz call (.store ty a x) t H = (vstore P frz H ty (ev t x) (ev t a)).map (undef, ·) := rfl
@[simp] theorem vop_binOp (op : BinOp) (ty ty' : TypeId) (x y : Operand) : vop P frz call (.binOp op ty x y ty') t H = (vbin P op ty (ev t x) (ev t y)).map (·, H) := rfl
@[simp] theorem vop_unOp (op : UnOp) (ty : TypeId) (x : Operand) : vop P frz call (.unOp op ty x) t H = (vun op (ev t x)).map (·, H) := rfl
@[simp] theorem vop_convert (s d : TypeId) (x : Operand) : vop P frz call (.convert s d x) t H = vneed ((P.underlying s).isSome = true) ((vconvert P d (ev t x)).map (·, H)) := rfl
@[simp] theorem vop_fieldAddr (s : TypeId) (x : Operand) (f : Nat) : vop P frz call (.fieldAddr s x f) t H = (vfieldAddr P H s f (ev t x)).map (·, H) := rfl
@[simp] theorem vop_field (s : TypeId) (x : Operand) (f : Nat) : vop P frz call (.field s x f) t H = (vfield P s f (ev t x)).map (·, H) := rfl
@[simp] theorem vop_indexAddr (s : TypeId) (x i : Operand) : vop P frz call (.indexAddr s x i) t H = (vindexAddr P H s (ev t x) (ev t i)).map (·, H) := rfl
@[simp] theorem vop_index (s : TypeId) (x i : Operand) : vop P frz call (.index s x i) t H = (vindex P s (ev t x) (ev t i)).map (·, H) := rfl
@[simp] theorem vop_makeSlice (s : TypeId) (x i : Operand) : vop P frz call (.makeSlice s x i) t H = vmake P H s (ev t x) (ev t i) := rfl
@[simp] theorem vop_slice (s : TypeId) (x : Operand) (lo hi : Option Operand) : vop P frz call (.slice s x lo hi none) t H = (vslice P H s (lo.map (ev t)) (hi.map (ev t)) (ev t x)).map (·, H) := rfl
@[simp] theorem vop_makeFunc (fn : Fn) (f c : Array Operand) : vop P frz call (.makeFunc fn f c) t H = some (.func fn (f.map (ev t)) (c.map (ev t)), H) := rfl
@[simp] theorem vop_alloc (e : TypeId) : vop P frz call (.alloc e) t H = (tzero P e).map fun z => (newp H, H ++ [⟨z, 0, e⟩]) := by
  simp only [vop]; cases tzero P e <;> rfl
@[simp] theorem vop_box (e : TypeId) (x : Operand) : vop P frz call (.box e x) t H = vneed (ones (ev t x).cells.toList = true) (some (newp H, H ++ [⟨(ev t x).cells.toList, 0, e⟩])) := rfl
@[simp] theorem vop_build (ty : TypeId) (parts : Array (Nat × Operand)) : vop P frz call (.build ty parts) t H = (vbuild P ty (parts.toList.map fun x => (x.1, ev t x.2))).map (·, H) := rfl
@[simp] theorem vop_buildSlice (ty : TypeId) (n : Nat) (parts : Array (Nat × Operand)) : vop P frz call (.buildSlice ty n parts) t H = vbuildSlice P H ty n (parts.toList.map fun x => (x.1, ev t x.2)) := rfl
@[simp] theorem vop_builtin (b : Builtin) (args : Array Operand) (ts : Array TypeId) : vop P frz call (.call ⟨.builtin b, args, ts⟩) t H = vbuiltin P frz H b ts.toList (args.toList.map (ev t)) := rfl
@[simp] theorem vop_func (g : Nat) (args : Array Operand) (ts : Array TypeId) : vop P frz call (.call ⟨.value (.func g), args, ts⟩) t H = call g (args.toList.map (ev t)) H := by
  simp [vop]
def vclos (call : Calling) (f : Value) (args : List Value) (H : Heap) : Option (Value × Heap) := match f with
  | .func (.func g) first captured => call g (first.toList ++ args ++ captured.toList) H
  | _ => none
@[simp] theorem vop_closure (x : Tmp) (args : Array Operand) (ts : Array TypeId) : vop P frz call (.call ⟨.value (.tmp x), args, ts⟩) t H = vclos call (t x) (args.toList.map (ev t)) H := rfl
@[simp] theorem vclos_func (g : Nat) (f c : Array Value) (args : List Value) : vclos call (.func (.func g) f c) args H = call g (f.toList ++ args ++ c.toList) H := rfl
def vextract (i : Nat) (v : Value) : Option Value := match v with | .tuple vs => vs[i]? | _ => none
@[simp] theorem vextract_tuple (vs : Array Value) (i : Nat) : vextract i (.tuple vs) = vs[i]? := rfl
@[simp] theorem vop_extract (x : Operand) (i : Nat) : vop P frz call (.extract x i) t H = (vextract i (ev t x)).map (·, H) := by
  simp only [vop, vextract]; generalize ev t x = cc; cases cc <;> rfl
def vnil (H : Heap) (v : Value) : Option Value := match v with | .pointer (some a) => (match look H a with | some _ => some (.pointer (some a)) | none => none) | _ => none
@[simp] theorem vop_nilCheck (x : Operand) : vop P frz call (.nilCheck x) t H = (vnil H (ev t x)).map (·, H) := by
  simp only [vop, vnil]; generalize ev t x = cc
  cases cc with
  | pointer a => cases a with
    | none => rfl
    | some a => simp only []; cases look H a <;> rfl
  | _ => rfl
end

@[simp] theorem vun_not (b : Bool) : vun .not (.bool b) = some (.bool !b) := rfl
@[simp] theorem vun_neg (k : IntKind) (n : Int) : vun .neg (.int k n) = some (.int k (k.wrap (0 - n))) := rfl
section
variable (ty : TypeId) (k : IntKind) (a b : Int)
@[simp] theorem vbin_add : vbin P .add ty (.int k a) (.int k b) = some (.int k (k.wrap (a + b))) := by simp [vbin, iarith]
@[simp] theorem vbin_sub : vbin P .sub ty (.int k a) (.int k b) = some (.int k (k.wrap (a - b))) := by simp [vbin, iarith]
@[simp] theorem vbin_mul : vbin P .mul ty (.int k a) (.int k b) = some (.int k (k.wrap (a * b))) := by simp [vbin, iarith]
@[simp] theorem vbin_quo : vbin P .quo ty (.int k a) (.int k b) = vneed (b ≠ 0) (some (.int k (k.wrap (a.tdiv b)))) := by simp only [vbin, iarith, if_true, vneed]; by_cases h : b = 0 <;> simp [h]
@[simp] theorem vbin_rem : vbin P .rem ty (.int k a) (.int k b) = vneed (b ≠ 0) (some (.int k (a.tmod b))) := by simp only [vbin, iarith, if_true, vneed]; by_cases h : b = 0 <;> simp [h]
@[simp] theorem vbin_eql : vbin P .eql ty (.int k a) (.int k b) = some (.bool (decide (a = b))) := by simp [vbin, icmp]
@[simp] theorem vbin_neq : vbin P .neq ty (.int k a) (.int k b) = some (.bool (!decide (a = b))) := by simp [vbin, icmp]
@[simp] theorem vbin_lss : vbin P .lss ty (.int k a) (.int k b) = some (.bool (decide (a < b))) := by simp [vbin, icmp]
@[simp] theorem vbin_leq : vbin P .leq ty (.int k a) (.int k b) = some (.bool (decide (a ≤ b))) := by simp [vbin, icmp]
@[simp] theorem vbin_gtr : vbin P .gtr ty (.int k a) (.int k b) = some (.bool (decide (b < a))) := by simp [vbin, icmp]
@[simp] theorem vbin_geq : vbin P .geq ty (.int k a) (.int k b) = some (.bool (decide (b ≤ a))) := by simp [vbin, icmp]
end

theorem look_of {a : Addr} {r : Row} (h : H[a.block]? = some r) (hg : a.spot = some r.gen) : look H a = some r := by simp [look, h, hg]
/-- rows by their number -/
@[simp] theorem get_push (H : Heap) (r : Row) : (H ++ [r])[H.length]? = some r := by simp
theorem get_push_lt {i : Nat} {r r' : Row} (h : H[i]? = some r) : (H ++ [r'])[i]? = some r := by
  rw [List.getElem?_append_left (List.getElem?_eq_some_iff.1 h).1]; exact h
end Go.VM
