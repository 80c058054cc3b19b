/- Parts of a proof that the law FnExactTreeParents holds for every input: contracts of the program's functions and plain laws on what they compute. -/
import Derived.Test.YtkkoenbmokbglaaQFnExactTreeParents0
import Derived.Test.YtkkoenbmokbglaaQFnExactTreeParents1
import Derived.Test.YtkkoenbmokbglaaQFnExactTreeParents2
import Derived.Test.YtkkoenbmokbglaaQFnExactTreeParents3
import Derived.Test.YtkkoenbmokbglaaQFnExactTreeParents4
import Derived.Test.YtkkoenbmokbglaaQFnExactTreeParents6
section
namespace Go.Proofs.YtkkoenbmokbglaaW.PrintMore
open Go.RowKit Go.Proofs.YtkkoenbmokbglaaW.PrintWords
namespace Kd
open Go.Proofs.YtkkoenbmokbglaaW.PrintWords.Kd
end Kd

namespace Kd
open Go.Proofs.YtkkoenbmokbglaaW.PrintWords.Kd
end Kd
end Go.Proofs.YtkkoenbmokbglaaW.PrintMore
namespace Go.Proofs.YtkkoenbmokbglaaW.PrintWords
open Go.RowKit
section
variable {P : Program} {ops : Array Oper} {rest : List Oper} {o : Oper} {a : Act} {Q : Exit → Act → World → Prop} {W : World}
theorem gate_callee {f : FuncId} {as : Array Operand} {ts : Array TypeId} (_ho : o.op = .call { callee := .value (.func f), args := as, argTypes := ts }) (h : wpList P ops Q (o :: rest) a W) : wpList P ops Q (o :: rest) a W := h
theorem gate_builtin {b : Builtin} {xs : Array Operand} {ts : Array TypeId} (_ho : o.op = .call { callee := .builtin b, args := xs, argTypes := ts }) (h : wpList P ops Q (o :: rest) a W) : wpList P ops Q (o :: rest) a W := h
end
theorem drewN_self (w : World) (n : Nat) : w.drewN n = w.drewN n := rfl
namespace Kd
section
variable {α : Type} {d : Kd α} {e base b b' g N : Nat} {ok ok1 : Nat → Prop} {W W2 w1 : World} {u v : Value} {xs ys : List α} {S : Nat → Prop}
theorem R_reok (hE : d.E = []) (h : d.R e W base ok1 v xs) (hok : ∀ k, v.ownBlock = some k → ok k) : d.R e W base ok v xs := R_mono (R_tight hE h) (fun k hk => hok k hk.symm)
theorem R_keptB (h : d.R e W base ok v xs) (hk : Kept W W2 S) (hne : ∀ k, ok k → ¬ S k) : d.R e W2 base (fun k => ok k ∧ (¬ S k ∧ k < W.heap.size)) v xs :=
  R_kept (R_mono (R_bound h) (fun k hk => ⟨hk.1, hne k hk.1, hk.2.2.1⟩)) hk (fun _ hk => hk.2.1)
end
end Kd
end Go.Proofs.YtkkoenbmokbglaaW.PrintWords
namespace Go.Proofs.YtkkoenbmokbglaaW.PrintWords
open Go.RowKit
namespace Kd
end Kd
end Go.Proofs.YtkkoenbmokbglaaW.PrintWords
end
