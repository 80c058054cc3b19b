/- Parts of a proof that the law FnAncestors holds for every input: contracts of the program's functions and plain laws on what they compute. -/
import Derived.Test.YtkkoenbmokbglaaQFnAncestors0
import Derived.Test.YtkkoenbmokbglaaQFnAncestors1
import Derived.Test.YtkkoenbmokbglaaQFnAncestors2
import Derived.Test.YtkkoenbmokbglaaQFnAncestors3
import Derived.Test.YtkkoenbmokbglaaQFnAncestors4
import Derived.Test.YtkkoenbmokbglaaQFnAncestors6
section
namespace Go.Proofs.YtkkoenbmokbglaaW.PrintMore
open Go.RowKit Go.Proofs.YtkkoenbmokbglaaW.PrintWords
namespace Kd
open Go.Proofs.YtkkoenbmokbglaaW.PrintWords.Kd
end Kd

namespace Kd
open Go.Proofs.YtkkoenbmokbglaaW.PrintWords.Kd
end Kd
end Go.Proofs.YtkkoenbmokbglaaW.PrintMore
namespace Go.Proofs.YtkkoenbmokbglaaW.PrintWords
open Go.RowKit
section
variable {P : Program} {ops : Array Oper} {rest : List Oper} {o : Oper} {a : Act} {Q : Exit → Act → World → Prop} {W : World}
theorem gate_callee {f : FuncId} {as : Array Operand} {ts : Array TypeId} (_ho : o.op = .call { callee := .value (.func f), args := as, argTypes := ts }) (h : wpList P ops Q (o :: rest) a W) : wpList P ops Q (o :: rest) a W := h
theorem gate_builtin {b : Builtin} {xs : Array Operand} {ts : Array TypeId} (_ho : o.op = .call { callee := .builtin b, args := xs, argTypes := ts }) (h : wpList P ops Q (o :: rest) a W) : wpList P ops Q (o :: rest) a W := h
end
namespace Kd
end Kd
end Go.Proofs.YtkkoenbmokbglaaW.PrintWords
namespace Go.Proofs.YtkkoenbmokbglaaW.PrintWords
open Go.RowKit
namespace Kd
def V {α : Type} (d : Kd α) (_e : Nat) (W : World) (_base : Nat) (ok : Nat → Prop) (v : Value) (xs : List α) : Prop := ∃ A c, v = .slice A xs.length c ∧ xs.length ≤ c ∧ F d W ok A xs.length xs
end Kd
end Go.Proofs.YtkkoenbmokbglaaW.PrintWords
end
