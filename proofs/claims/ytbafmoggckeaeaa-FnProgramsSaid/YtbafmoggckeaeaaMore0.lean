/- What is proved here: three small words of a walk (a gate ahead of a call by its kind; a world that was drawn). Conditions: none. -/
import Derived.Test.YtbafmoggckeaeaaWWords
import Derived.Test.YtbafmoggckeaeaaWLast
namespace Go.Proofs.YtbafmoggckeaeaaW.PrintMore
end Go.Proofs.YtbafmoggckeaeaaW.PrintMore
namespace Go.Proofs.YtbafmoggckeaeaaW.PrintWords
open Go.RowKit
variable {P : Program} {ops : Array Oper} {rest : List Oper} {o : Oper} {a : Act} {Q : Exit → Act → World → Prop} {W : World}
theorem gate_callee {f : FuncId} {as : Array Operand} {ts : Array TypeId} (_ho : o.op = .call { callee := .value (.func f), args := as, argTypes := ts }) (h : wpList P ops Q (o :: rest) a W) : wpList P ops Q (o :: rest) a W := h
theorem gate_builtin {b : Builtin} {xs : Array Operand} {ts : Array TypeId} (_ho : o.op = .call { callee := .builtin b, args := xs, argTypes := ts }) (h : wpList P ops Q (o :: rest) a W) : wpList P ops Q (o :: rest) a W := h
theorem drewN_self (w : World) (n : Nat) : w.drewN n = w.drewN n := rfl
end Go.Proofs.YtbafmoggckeaeaaW.PrintWords
