/-
  A walk's goal that stops at a region that draws (no program in sight).
-/
import Derived.Test.YtieofljkgmkaiaaDoorBase
namespace Go.Proofs.YtieofljkgmkaiaaDoor
structure Stopped (p : Prop) : Prop where
  out : p
theorem stop_at {P : Program} {n : Nat} {ops : Array Oper} {Q : Exit → Act → World → Prop} {a : Act} {w : World} (h : Stopped (Code.wp P (.region n ops true) Q a w)) : Code.wp P (.region n ops true) Q a w := h.out
theorem stop_append {P : Program} {ops : Array Oper} {rest : List Oper} {o : Oper} {a : Act} {Q : Exit → Act → World → Prop} {w : World} {args : Array Operand} {tys : Array TypeId} (_ : o.op = .call { callee := .builtin .append, args := args, argTypes := tys }) (h : Stopped (wpList P ops Q (o :: rest) a w)) : wpList P ops Q (o :: rest) a w := h.out
end Go.Proofs.YtieofljkgmkaiaaDoor
