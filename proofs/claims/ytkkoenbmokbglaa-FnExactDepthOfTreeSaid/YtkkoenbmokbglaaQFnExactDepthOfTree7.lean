/- Parts of a proof that the law FnExactDepthOfTree holds for every input: contracts of the program's functions and plain laws on what they compute. -/
import Derived.Test.YtkkoenbmokbglaaQFnExactDepthOfTree0
import Derived.Test.YtkkoenbmokbglaaQFnExactDepthOfTree1
import Derived.Test.YtkkoenbmokbglaaQFnExactDepthOfTree2
import Derived.Test.YtkkoenbmokbglaaQFnExactDepthOfTree3
import Derived.Test.YtkkoenbmokbglaaQFnExactDepthOfTree4
import Derived.Test.YtkkoenbmokbglaaQFnExactDepthOfTree6
section
namespace Go.Proofs.YtkkoenbmokbglaaW.PrintMore
open Go.RowKit Go.Proofs.YtkkoenbmokbglaaW.PrintWords
namespace Kd
open Go.Proofs.YtkkoenbmokbglaaW.PrintWords.Kd
end Kd

namespace Kd
open Go.Proofs.YtkkoenbmokbglaaW.PrintWords.Kd
end Kd
theorem max2_int (k k' : IntKind) (x y : Int) : Builtin.max2 (.int k x) (.int k' y) = pure (.int k (if x < y then y else x)) := by simp only [Builtin.max2, gt_iff_lt]
theorem max_two (ats : Array TypeId) (ty : TypeId) (a b : Value) : Builtin.max_ ats ty #[a, b] = (Builtin.max2 a b >>= fun s => pure s) := by simp only [Builtin.max_, List.foldlM_cons, List.foldlM_nil]
end Go.Proofs.YtkkoenbmokbglaaW.PrintMore
namespace Go.Proofs.YtkkoenbmokbglaaW.PrintWords
open Go.RowKit
section
variable {P : Program} {ops : Array Oper} {rest : List Oper} {o : Oper} {a : Act} {Q : Exit → Act → World → Prop} {W : World}
theorem gate_callee {f : FuncId} {as : Array Operand} {ts : Array TypeId} (_ho : o.op = .call { callee := .value (.func f), args := as, argTypes := ts }) (h : wpList P ops Q (o :: rest) a W) : wpList P ops Q (o :: rest) a W := h
theorem gate_builtin {b : Builtin} {xs : Array Operand} {ts : Array TypeId} (_ho : o.op = .call { callee := .builtin b, args := xs, argTypes := ts }) (h : wpList P ops Q (o :: rest) a W) : wpList P ops Q (o :: rest) a W := h
end
def mx (a b : Int) : Int := if a < b then b else a
namespace Kd
end Kd
end Go.Proofs.YtkkoenbmokbglaaW.PrintWords
namespace Go.Proofs.YtkkoenbmokbglaaW.PrintWords
open Go.RowKit
namespace Kd
end Kd
end Go.Proofs.YtkkoenbmokbglaaW.PrintWords
end
