/-
  More rules for the walks.
-/
import Derived.Test.YtijboooekbdinaaZ
namespace Go.Proofs.Ytijboooekbdinaa
namespace Abs
open Go.RowKit
theorem callOps_value {f : Operand} {args : Array Operand} {ts : Array TypeId} : (Call.mk (.value f) args ts).operands.toList = f :: args.toList := by
  simp [Call.operands]
theorem callOps_builtin {f : Builtin} {args : Array Operand} {ts : Array TypeId} : (Call.mk (.builtin f) args ts).operands.toList = args.toList := by
  simp [Call.operands]
end Abs
end Go.Proofs.Ytijboooekbdinaa
