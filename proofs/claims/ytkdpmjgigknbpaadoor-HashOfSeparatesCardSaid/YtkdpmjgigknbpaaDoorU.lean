/-
  Words for the walks of this seat.
-/
import Derived.Test.YtkdpmjgigknbpaaDoorT
namespace Go.Proofs.YtkdpmjgigknbpaaDoor
namespace Abs
open Go.RowKit

/-- Numbers of one kind, as values and as cells. -/
def natV (k : IntKind) (l : List Nat) : List Value := l.map fun (n : Nat) => .int k (n : Int)
def nats (k : IntKind) (l : List Nat) : List CV := l.map fun (n : Nat) => .v (.int k (n : Int))
def nibs : List Nat := [0, 75628553, 151257106, 226885659, 302514212, 378142765, 453771318, 529399871, 605028424, 546439233, 756285530, 697696339, 907542636, 848953445, 1058799742, 1000210551]
def rounds : List Nat := [1116352408, 1899447441, 3049323471, 3921009573, 961987163, 1508970993, 2453635748, 2870763221, 3624381080, 310598401, 607225278, 1426881987, 1925078388, 2162078206, 2614888103, 3248222580, 3835390401, 4022224774, 264347078, 604807628, 770255983, 1249150122, 1555081692, 1996064986, 2554220882, 2821834349, 2952996808, 3210313671, 3336571891, 3584528711, 113926993, 338241895, 666307205, 773529912, 1294757372, 1396182291, 1695183700, 1986661051, 2177026350, 2456956037, 2730485921, 2820302411, 3259730800, 3345764771, 3516065817, 3600352804, 4094571909, 275423344, 430227734, 506948616, 659060556, 883997877, 958139571, 1322822218, 1537002063, 1747873779, 1955562222, 2024104815, 2227730452, 2361852424, 2428436474, 2756734187, 3204031479, 3329325298]
/-- The package's variables that are read: the tables of package hash. -/
def GV : Nat → List Value
  | 1 => natV .u64 nibs
  | 2 => natV .u32 rounds
  | _ => []
/-- .. and the table of the specification. -/
def GV2 : Nat → List Value
  | 0 => natV .u32 rounds
  | 1 => natV .u64 nibs
  | 2 => natV .u32 rounds
  | _ => []
abbrev SP (f : FuncId) (args : List AV) (R : AV) : Prop := Spec Tryd.prog GV f args R
abbrev SP2 (f : FuncId) (args : List AV) (R : AV) : Prop := Spec Tryd.prog GV2 f args R
abbrev AW (H : Nat → Bool) (F : Nat → Nat → List Nat × List Nat) : Code → (Exit → St → Prop) → St → Prop := awp Tryd.prog GV H (adraw Tryd.prog GV H F)
abbrev H0 : Nat → Bool := fun _ => false
abbrev F0 : Nat → Nat → List Nat × List Nat := fun _ _ => ([], [])

theorem spec_fn {G : Nat → List Value} {H : Nat → Bool} {F : Nat → Nat → List Nat × List Nat} {f : FuncId} {fn : Func} {c : Code} {n : Nat} {rs : Array ResultVar} (hf : Tryd.prog.funcs[f]? = some fn) (hb : fn.body = some c) (hn : fn.ntmps = n) (hrs : fn.results = rs)
    (hN : dstsLt n c = true) {args : List AV} {R : AV} (hok : args.all argOK = true) (hle : args.length ≤ n) (h : awp Tryd.prog G H (adraw Tryd.prog G H F) c (retQ Tryd.prog rs.toList R) (st0 args)) : Spec Tryd.prog G f args R :=
  spec_of (adraw_sound mixed) hf hb hn (congrArg Array.toList hrs) hN hok hle h
/-- What holds with fewer tables holds with all. -/
theorem spec_two {f : FuncId} {args : List AV} {R : AV} (h : SP f args R) : SP2 f args R := fun w vals hG hA =>
  h w vals (fun g j x hx => by
    match g, hx with
    | 1, hx => exact hG 1 j x hx
    | 2, hx => exact hG 2 j x hx
    | 0, hx => simp [GV] at hx
    | n + 3, hx => simp [GV] at hx) hA

end Abs
end Go.Proofs.YtkdpmjgigknbpaaDoor
