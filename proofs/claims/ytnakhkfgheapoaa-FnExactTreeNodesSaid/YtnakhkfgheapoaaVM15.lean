import Derived.Test.YtnakhkfgheapoaaVM14
/-! Running texts by rewriting: a stack of what is left to do; what isn't decided stands still. -/
set_option linter.all false
namespace Go.VM
open Go
variable {P : Program} {H H' L : Heap} {v w x y : Value} {t t' : Env} {C : Ctx} {α : Type}

inductive Itm where
  | code (c : Code)
  | ops (all : Array Oper) (l : List Oper)
  | blk (id : Nat)
  | again (c : Code)

/-- a call's frame: what stays while it runs -/
structure Frm where
  C : Ctx
  frz : Nat
  g : Nat
  rs : List ResultVar
  H0 : Heap

noncomputable def unw (F : Frm) : List Itm → Out → Env → Heap → Option (Out × Env × Heap)
  | [], o, t, H => some (o, t, H)
  | .code c :: k, .normal, t, H => match vexec F.C F.frz c t H with
    | some (o, t', H') => unw F k o t' H'
    | none => none
  | .ops all l :: k, .normal, t, H => match vops F.C.P F.frz (vcall F.C F.frz) all l t H with
    | some (t', H') => unw F k .normal t' H'
    | none => none
  | .again c :: k, .normal, t, H => match vexec F.C F.frz (.loop c) t H with
    | some (o, t', H') => unw F k o t' H'
    | none => none
  | .blk id :: k, .exit i, t, H => if i = id then unw F k .normal t H else unw F k (.exit i) t H
  | _ :: k, o, t, H => unw F k o t H
/-- a call ends -/
def vfin (F : Frm) (t' : Env) (H' : Heap) : Option (Value × Heap) :=
  match vresults F.C.P t' H' F.rs with
  | some vs => if F.C.mode F.g = 0 then
      match pack F.H0.length H' (joined vs) with
      | some (v, ids) => some (v, F.H0 ++ packed F.H0.length H' ids)
      | none => none
      else some (joined vs, H')
  | none => none
def vend (F : Frm) (r : Option (Out × Env × Heap)) : Option (Value × Heap) :=
  match r with
  | some (.normal, t', H') => vfin F t' H'
  | some (.ret, t', H') => vfin F t' H'
  | _ => none
noncomputable def go (F : Frm) (k : List Itm) (o : Out) (t : Env) (H : Heap) : Option (Value × Heap) := vend F (unw F k o t H)

theorem vcall_go {frz : Nat} {g : Nat} {l : List Value} {fn : Func} {body : Code} {rs : List ResultVar} (hf : C.P.funcs[g]? = some fn) (hb : fn.body = some body) (hok : fnOk fn body = true) (hrs : fn.results.toList = rs) :
    vcall C frz g l H = go ⟨C, if C.mode g = 2 then frz else H.length, g, rs, H⟩ [.code body] .normal (argEnv l) H := by
  rw [vcall_enter hf hb hok]
  subst hrs
  simp only [go, unw]
  cases vexec C (if C.mode g = 2 then frz else H.length) body (argEnv l) H with
  | none => rfl
  | some r => rfl

variable (F : Frm) (k : List Itm) (a b : Code)

@[simp] theorem go_nil : go F [] .normal t H = vfin F t H := rfl
theorem unw_ret : ∀ k, unw F k .ret t H = some (.ret, t, H)
  | [] => rfl
  | .code _ :: k => unw_ret k
  | .ops _ _ :: k => unw_ret k
  | .again _ :: k => unw_ret k
  | .blk _ :: k => unw_ret k
@[simp] theorem go_ret : go F k .ret t H = vfin F t H := by simp only [go, unw_ret]; rfl
@[simp] theorem go_exit_code (i : Nat) : go F (.code a :: k) (.exit i) t H = go F k (.exit i) t H := rfl
@[simp] theorem go_exit_ops (i : Nat) (all : Array Oper) (l : List Oper) : go F (.ops all l :: k) (.exit i) t H = go F k (.exit i) t H := rfl
@[simp] theorem go_exit_again (i : Nat) : go F (.again a :: k) (.exit i) t H = go F k (.exit i) t H := rfl
@[simp] theorem go_exit_blk (i id : Nat) : go F (.blk id :: k) (.exit i) t H = if i = id then go F k .normal t H else go F k (.exit i) t H := by
  simp only [go, unw]; split <;> rfl
@[simp] theorem go_blk (id : Nat) : go F (.blk id :: k) .normal t H = go F k .normal t H := rfl
@[simp] theorem go_c_ret : go F (.code .ret :: k) .normal t H = vfin F t H := by
  simp only [go, unw, vexec_ret, unw_ret]; rfl
@[simp] theorem go_skip : go F (.code .skip :: k) .normal t H = go F k .normal t H := by simp only [go, unw, vexec_skip]
@[simp] theorem go_label (l : Nat) : go F (.code (.label l) :: k) .normal t H = go F k .normal t H := by simp only [go, unw, vexec_label]
@[simp] theorem go_exit (i : Nat) : go F (.code (.exit i) :: k) .normal t H = go F k (.exit i) t H := by simp only [go, unw, vexec_exit]
@[simp] theorem go_seq : go F (.code (.seq a b) :: k) .normal t H = go F (.code a :: .code b :: k) .normal t H := by
  simp only [go, unw, vexec_seq]
  cases vexec F.C F.frz a t H with
  | none => rfl
  | some r =>
    obtain ⟨o, t1, H1⟩ := r
    cases o <;> rfl
@[simp] theorem go_block (id : Nat) : go F (.code (.block id a) :: k) .normal t H = go F (.code a :: .blk id :: k) .normal t H := by
  simp only [go, unw, vexec_block]
  cases vexec F.C F.frz a t H with
  | none => rfl
  | some r =>
    obtain ⟨o, t1, H1⟩ := r
    cases o with
    | normal => rfl
    | ret => rfl
    | exit i => by_cases h : i = id <;> simp [atBlock, unw, h]
/-- one round of a loop -/
theorem go_loop : go F (.code (.loop a) :: k) .normal t H = go F (.code a :: .again a :: k) .normal t H := by
  simp only [go, unw]
  rw [vexec_loop]
  cases vexec F.C F.frz a t H with
  | none => rfl
  | some r =>
    obtain ⟨o, t1, H1⟩ := r
    cases o <;> rfl
theorem go_again : go F (.again a :: k) .normal t H = go F (.code (.loop a) :: k) .normal t H := rfl
@[simp] theorem go_region (id : Nat) (ops : Array Oper) : go F (.code (.region id ops false) :: k) .normal t H = go F (.ops ops ops.toList :: k) .normal t H := by
  simp only [go, unw, vexec_region, Bool.false_eq_true, false_implies, if_true]
  cases vops F.C.P F.frz (vcall F.C F.frz) ops ops.toList t H with
  | none => rfl
  | some r => rfl
theorem go_draw (id : Nat) (ops : Array Oper) (h : drawOk F.C ops = true) : go F (.code (.region id ops true) :: k) .normal t H = go F (.ops ops ops.toList :: k) .normal t H := by
  simp only [go, unw, vexec_region, h, implies_true, if_true]
  cases vops F.C.P F.frz (vcall F.C F.frz) ops ops.toList t H with
  | none => rfl
  | some r => rfl
@[simp] theorem go_ops_nil (all : Array Oper) : go F (.ops all [] :: k) .normal t H = go F k .normal t H := rfl

/-- a test: its arms are told as what is left to do, so that nothing runs in them before the test is decided -/
noncomputable def br (F : Frm) (v : Value) (k1 k2 : List Itm) (t : Env) (H : Heap) : Option (Value × Heap) :=
  match v with
  | .bool true => go F k1 .normal t H
  | .bool false => go F k2 .normal t H
  | _ => none
@[simp] theorem br_true (k1 k2 : List Itm) : br F (.bool true) k1 k2 t H = go F k1 .normal t H := rfl
@[simp] theorem br_false (k1 k2 : List Itm) : br F (.bool false) k1 k2 t H = go F k2 .normal t H := rfl
@[simp] theorem br_not (b : Bool) (k1 k2 : List Itm) : br F (.bool (!b)) k1 k2 t H = br F (.bool b) k2 k1 t H := by cases b <;> rfl
theorem br_dec {p : Prop} [Decidable p] {k1 k2 : List Itm} {z : Option (Value × Heap)} (h1 : p → go F k1 .normal t H = z) (h2 : ¬ p → go F k2 .normal t H = z) : br F (.bool (decide p)) k1 k2 t H = z := by
  by_cases h : p
  · simp only [h, decide_true]; exact h1 h
  · simp only [h, decide_false]; exact h2 h
theorem br_eq {b : Bool} {k1 k2 : List Itm} {z : Option (Value × Heap)} (h1 : b = true → go F k1 .normal t H = z) (h2 : b = false → go F k2 .normal t H = z) : br F (.bool b) k1 k2 t H = z := by
  cases b; exact h2 rfl; exact h1 rfl
@[simp] theorem go_cond (x : Operand) : go F (.code (.cond x a b) :: k) .normal t H = br F (ev t x) (.code a :: k) (.code b :: k) t H := by
  simp only [go, unw, vexec_cond, br]
  cases hv : ev t x with
  | bool c => cases c <;> rfl
  | _ => rfl
/-- an operation's result goes into its slot -/
noncomputable def thn (F : Frm) (r : Option (Value × Heap)) (d : Option Tmp) (k : List Itm) (t : Env) : Option (Value × Heap) :=
  match r with
  | some (v, H') => go F k .normal (put t d v) H'
  | none => none
@[simp] theorem thn_some (d : Option Tmp) : thn F (some (v, H)) d k t = go F k .normal (put t d v) H := rfl
@[simp] theorem thn_none (d : Option Tmp) : thn F none d k t = none := rfl
@[simp] theorem thn_need (p : Prop) [Decidable p] (r : Option (Value × Heap)) (d : Option Tmp) : thn F (vneed p r) d k t = vneed p (thn F r d k t) := by unfold vneed; split <;> rfl
@[simp] theorem go_op (all : Array Oper) (d : Option Tmp) (op : Op) (ty : TypeId) (pos : String) (after : Array Edge) (l : List Oper) :
    go F (.ops all (⟨d, op, ty, pos, after, none⟩ :: l) :: k) .normal t H = thn F (vop F.C.P F.frz (vcall F.C F.frz) op t H) d (.ops all l :: k) t := by
  simp only [go, unw, vops, vguard, thn]
  cases vop F.C.P F.frz (vcall F.C F.frz) op t H with
  | none => rfl
  | some r => rfl
@[simp] def gdst (ops : Array Oper) (j : Nat) : Nat := ((ops[j]?).bind (·.dst)).getD 0
/-- an operation behind a guard -/
noncomputable def gd (F : Frm) (v : Value) (want : Bool) (op : Op) (d : Option Tmp) (k : List Itm) (t : Env) (H : Heap) : Option (Value × Heap) :=
  match v with
  | .bool b => if b = want then thn F (vop F.C.P F.frz (vcall F.C F.frz) op t H) d k t else go F k .normal (put t d undef) H
  | .tuple vs => if vs.size = 0 then go F k .normal (put t d undef) H else none
  | _ => none
@[simp] theorem gd_tt (op : Op) (d : Option Tmp) : gd F (.bool true) true op d k t H = thn F (vop F.C.P F.frz (vcall F.C F.frz) op t H) d k t := rfl
@[simp] theorem gd_ff (op : Op) (d : Option Tmp) : gd F (.bool false) false op d k t H = thn F (vop F.C.P F.frz (vcall F.C F.frz) op t H) d k t := rfl
@[simp] theorem gd_tf (op : Op) (d : Option Tmp) : gd F (.bool true) false op d k t H = go F k .normal (put t d undef) H := rfl
@[simp] theorem gd_ft (op : Op) (d : Option Tmp) : gd F (.bool false) true op d k t H = go F k .normal (put t d undef) H := rfl
@[simp] theorem gd_undef (want : Bool) (op : Op) (d : Option Tmp) : gd F undef want op d k t H = go F k .normal (put t d undef) H := rfl
@[simp] theorem gd_not (b want : Bool) (op : Op) (d : Option Tmp) : gd F (.bool (!b)) want op d k t H = gd F (.bool b) (!want) op d k t H := by cases b <;> cases want <;> rfl
theorem gd_dec {p : Prop} [Decidable p] {want : Bool} {op : Op} {d : Option Tmp} {z : Option (Value × Heap)} (h1 : p → gd F (.bool true) want op d k t H = z) (h2 : ¬ p → gd F (.bool false) want op d k t H = z) :
    gd F (.bool (decide p)) want op d k t H = z := by
  by_cases h : p
  · simp only [h, decide_true]; exact h1 h
  · simp only [h, decide_false]; exact h2 h
theorem gd_eq {b want : Bool} {op : Op} {d : Option Tmp} {z : Option (Value × Heap)} (h1 : b = true → gd F (.bool true) want op d k t H = z) (h2 : b = false → gd F (.bool false) want op d k t H = z) :
    gd F (.bool b) want op d k t H = z := by cases b; exact h2 rfl; exact h1 rfl
@[simp] theorem go_guard (all : Array Oper) (d : Option Tmp) (op : Op) (ty : TypeId) (pos : String) (after : Array Edge) (l : List Oper) (j : Nat) (want : Bool)
    (hj : ((all[j]?).bind (·.dst)).isSome = true) :
    go F (.ops all (⟨d, op, ty, pos, after, some (j, want)⟩ :: l) :: k) .normal t H = gd F (t (gdst all j)) want op d (.ops all l :: k) t H := by
  simp only [go, unw, vops, vguard, gdst]
  cases hd : (all[j]?).bind (·.dst) with
  | none => rw [hd] at hj; cases hj
  | some e =>
    simp only [Option.getD_some]
    cases hv : t e with
    | bool b =>
      simp only [gd, thn]
      by_cases hb : b = want
      · subst hb
        simp only [beq_self_eq_true, if_true]
        cases vop F.C.P F.frz (vcall F.C F.frz) op t H <;> rfl
      · have : (b == want) = false := by simpa using hb
        simp only [this, if_neg hb]; rfl
    | tuple vs =>
      simp only [gd]
      by_cases hv : vs.size = 0
      · simp only [hv, if_true]; rfl
      · simp only [hv, if_false]; rfl
    | _ => rfl
attribute [simp] vfin vresults vresult joined pack packVal packCell packList packed packRow scrub
end Go.VM
