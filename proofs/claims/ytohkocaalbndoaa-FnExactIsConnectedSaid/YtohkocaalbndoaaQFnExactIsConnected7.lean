/- Parts of a proof that the law FnExactIsConnected holds for every input: contracts of the program's functions and plain laws on what they compute. -/
import Derived.Test.YtohkocaalbndoaaQFnExactIsConnected0
import Derived.Test.YtohkocaalbndoaaQFnExactIsConnected1
import Derived.Test.YtohkocaalbndoaaQFnExactIsConnected2
import Derived.Test.YtohkocaalbndoaaQFnExactIsConnected3
import Derived.Test.YtohkocaalbndoaaQFnExactIsConnected4
import Derived.Test.YtohkocaalbndoaaQFnExactIsConnected6
section
namespace Go.Proofs.YtohkocaalbndoaaW.PrintMore
open Go.RowKit Go.Proofs.YtohkocaalbndoaaW.PrintWords
namespace Kd
open Go.Proofs.YtohkocaalbndoaaW.PrintWords.Kd
end Kd

namespace Kd
open Go.Proofs.YtohkocaalbndoaaW.PrintWords.Kd
end Kd
end Go.Proofs.YtohkocaalbndoaaW.PrintMore
namespace Go.Proofs.YtohkocaalbndoaaW.PrintWords
open Go.RowKit
section
variable {P : Program} {ops : Array Oper} {rest : List Oper} {o : Oper} {a : Act} {Q : Exit → Act → World → Prop} {W : World}
theorem gate_callee {f : FuncId} {as : Array Operand} {ts : Array TypeId} (_ho : o.op = .call { callee := .value (.func f), args := as, argTypes := ts }) (h : wpList P ops Q (o :: rest) a W) : wpList P ops Q (o :: rest) a W := h
theorem gate_builtin {b : Builtin} {xs : Array Operand} {ts : Array TypeId} (_ho : o.op = .call { callee := .builtin b, args := xs, argTypes := ts }) (h : wpList P ops Q (o :: rest) a W) : wpList P ops Q (o :: rest) a W := h
end
namespace Kd
end Kd
end Go.Proofs.YtohkocaalbndoaaW.PrintWords
namespace Go.Proofs.YtohkocaalbndoaaW.PrintWords
open Go.RowKit
namespace Kd
end Kd
end Go.Proofs.YtohkocaalbndoaaW.PrintWords
end
