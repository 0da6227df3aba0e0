/-
  A walk's goal that stops at a region that draws (no program in sight).
-/
import Derived.Test.YtbmdepbmejnlkaaDoorBase
namespace Go.Proofs.YtbmdepbmejnlkaaDoor
structure Stopped (p : Prop) : Prop where
  out : p
theorem stop_at {P : Program} {n : Nat} {ops : Array Oper} {Q : Exit → Act → World → Prop} {a : Act} {w : World} (h : Stopped (Code.wp P (.region n ops true) Q a w)) : Code.wp P (.region n ops true) Q a w := h.out
theorem stop_append {P : Program} {ops : Array Oper} {rest : List Oper} {o : Oper} {a : Act} {Q : Exit → Act → World → Prop} {w : World} {args : Array Operand} {tys : Array TypeId} (_ : o.op = .call { callee := .builtin .append, args := args, argTypes := tys }) (h : Stopped (wpList P ops Q (o :: rest) a w)) : wpList P ops Q (o :: rest) a w := h.out
theorem stop_step {P : Program} {ops : Array Oper} {o : Oper} {a : Act} {K : Act → World → Prop} {Q : Exit → Act → World → Prop} {E : Prop} {w : World} {args : Array Operand} {tys : Array TypeId} (_ : o.op = .call { callee := .builtin .append, args := args, argTypes := tys }) (h : Stopped (if Region.wanted o (yielded ops a.tmps) = true then Oper.wp P o a w K Q else E)) : if Region.wanted o (yielded ops a.tmps) = true then Oper.wp P o a w K Q else E := h.out
/-- What is shown once and used at many goals (the proposition is found at the first of them). -/
theorem cutH {p q : Prop} (h : Go.RowKit.Hid p → q) (hp : p) : q := h hp
end Go.Proofs.YtbmdepbmejnlkaaDoor
