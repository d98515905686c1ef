/-
  Words for the walks of this seat.
-/
import Derived.Test.YtijboooekbdinaaT
namespace Go.Proofs.Ytijboooekbdinaa
namespace Abs
open Go.RowKit

/-- The package's variables that are read: none. -/
def GV : Nat → List Value := fun _ => []
abbrev SP (f : FuncId) (args : List AV) (R : AV) : Prop := Spec Try.prog GV f args R
abbrev AW (H : Nat → Bool) (F : Nat → Nat → List Nat × List Nat) : Code → (Exit → St → Prop) → St → Prop := awp Try.prog GV H (adraw Try.prog GV H F)
abbrev H0 : Nat → Bool := fun _ => false
abbrev F0 : Nat → Nat → List Nat × List Nat := fun _ _ => ([], [])

theorem spec_fn {H : Nat → Bool} {F : Nat → Nat → List Nat × List Nat} {f : FuncId} {fn : Func} {c : Code} {n : Nat} {rs : Array ResultVar} (hf : Try.prog.funcs[f]? = some fn) (hb : fn.body = some c) (hn : fn.ntmps = n) (hrs : fn.results = rs)
    (hN : dstsLt n c = true) {args : List AV} {R : AV} (hok : args.all argOK = true) (hle : args.length ≤ n) (h : AW H F c (retQ Try.prog rs.toList R) (st0 args)) : SP f args R :=
  spec_of (adraw_sound mixed) hf hb hn (congrArg Array.toList hrs) hN hok hle h

end Abs
end Go.Proofs.Ytijboooekbdinaa
