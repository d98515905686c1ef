/-
  One operation upon abstract states, as a relation; what a call of a function comes to ('Spec').
-/
import Derived.Test.YtkdpmjgigknbpaaDoorA2
namespace Go.Proofs.YtkdpmjgigknbpaaDoor
namespace Abs
open Go.RowKit

structure Res where
  val : AV
  bu : Option (Nat × List CV)
  ou : List (Nat × Option Nat)
  site : Bool

abbrev rv (x : AV) : Res := ⟨x, none, [], false⟩

def St.app (σ : St) (dst : Option Nat) (r : Res) : St :=
  { s := match dst with | some d => upd σ.s d r.val | none => σ.s
    b := match r.bu with | some (k, cs) => upd σ.b k (some cs) | none => σ.b
    o := r.ou.foldl (fun o x => upd o x.1 x.2) σ.o }

def St.step (σ : St) (dst : Option Nat) (r : Res) : St :=
  (match r.site, dst with | true, some d => σ.kill d | _, _ => σ).app dst r

/-! ### Types, as far as they are asked -/

/-- A value of this type in memory: one cell (none), or a row of so many. -/
def ldKind (P : Program) (t : TypeId) : Option (Option Nat) :=
  match P.underlying t, P.info? t with
  | some (.struct _), some i | some (.array _ _), some i => some (some i.size)
  | some _, some _ => some none
  | _, _ => none
def szOf (P : Program) (t : TypeId) : Option Nat := (P.info? t).map (·.size)
/-- A slice type's element: its cells and bytes. -/
def slEl (P : Program) (t : TypeId) : Option (Nat × Nat) :=
  match P.underlying t with
  | some (.slice e) => (P.info? e).bind fun i => i.zero.bind fun z => if z.cells.size = i.size then some (i.size, i.bytes) else none
  | _ => none
def slZero (P : Program) (t : TypeId) : Option (List Value) :=
  match P.underlying t with
  | some (.slice e) => (P.info? e).bind fun i => i.zero.map fun z => z.cells.toList
  | _ => none
/-- An array type's length, and its element's cells. -/
def arEl (P : Program) (t : TypeId) : Option (Nat × Nat) :=
  match P.underlying t with
  | some (.array n e) => (P.info? e).map fun i => (n, i.size)
  | _ => none
/-- An array of integers, in cells of one. -/
def arInt (P : Program) (t : TypeId) : Option (Nat × IntKind) :=
  match P.underlying t with
  | some (.array n e) => match P.underlying e, (P.info? e).map (·.size) with
    | some (.int k), some 1 => if P.eqGuardType P.depth t then none else some (n, k)
    | _, _ => none
  | _ => none
def isBoolT (P : Program) (t : TypeId) : Bool := P.underlying t matches some .bool
def isStrT (P : Program) (t : TypeId) : Bool := P.underlying t matches some .string
def isSlT (P : Program) (t : TypeId) : Bool := P.underlying t matches some (.slice _)
/-- Where field f lies. -/
def fOff (P : Program) (t : TypeId) (f : Nat) : Option Nat :=
  match P.underlying t with
  | some (.struct fs) => (fs[f]?).bind fun x => match (P.info? x.type).map (·.size) with | some (_ + 1) => some x.offset | _ => none
  | _ => none
def zCells (P : Program) (t : TypeId) : Option (List Value) := (P.info? t).bind fun i => i.zero.map fun z => z.cells.toList
/-- Where part i of a composite value of this type lies, and its cells. -/
def placeOf (P : Program) (t : TypeId) (i : Nat) : Option (Nat × Nat) :=
  match P.underlying t with
  | some (.struct fs) => (fs[i]?).bind fun x => (P.info? x.type).map fun j => (x.offset, j.size)
  | some (.array _ e) => (P.info? e).map fun j => (i * j.size, j.size)
  | _ => none
/-- The parts of a composite value of this type have sizes. -/
def bdOK (P : Program) (t : TypeId) : Bool :=
  match P.underlying t with
  | some (.struct fs) => fs.toList.all fun f => (P.info? f.type).isSome
  | some (.array _ e) => (P.info? e).isSome
  | _ => false
inductive Cvt where
  | toInt (k : IntKind) | toStr | toBytes | same
def cvt (P : Program) (src dst : TypeId) : Option Cvt :=
  match P.underlying src, P.underlying dst with
  | some (.int _), some (.int k) => some (.toInt k)
  | some (.slice e), some .string => match P.underlying e with | some (.int .u8) => some .toStr | _ => none
  | some .string, some (.slice e) => match P.underlying e with | some (.int .u8) => some .toBytes | _ => none
  | some (.slice e), some (.slice _) => match P.underlying e with | some (.int .u8) => if src = dst then some .same else none | _ => none
  | _, _ => none

/-! ### Cells -/

def plain : List CV → Option (List Value)
  | [] => some []
  | .v x :: r => (plain r).map (x :: ·)
  | _ => none
def bytesOf : List CV → Option (List UInt8)
  | [] => some []
  | .v (.int .u8 n) :: r => (bytesOf r).map (UInt8.ofNat n.toNat :: ·)
  | _ => none
def bytesC (l : List UInt8) : List CV := l.map fun b => .v (.int .u8 b.toNat)
def ints (k : IntKind) (l : List Int) : List CV := l.map fun n => .v (.int k n)
def intsOf (k : IntKind) : List Value → Option (List Int)
  | [] => some []
  | .int k' n :: r => if k' = k then (intsOf k r).map (n :: ·) else none
  | _ => none
def putL (cs : List CV) (off : Nat) (new : List CV) : List CV := cs.take off ++ new ++ cs.drop (off + new.length)
def putV (cs : List Value) (off : Nat) (new : List Value) : List Value := cs.take off ++ new ++ cs.drop (off + new.length)
def CV.one : CV → Bool
  | .v x => x.oneCell'
  | .sl _ _ => true
def ofCV : CV → AV
  | .v x => .v x
  | .sl sz xs => .sl none sz (xs.map .v)
/-- The cells that a value takes. -/
def cellsAV : AV → Option (List CV)
  | .v x => some (x.cells.toList.map .v)
  | .sl _ sz xs => (plain xs).map fun ys => [.sl sz ys]
  | _ => none

/-! ### Values -/

def intV (op : BinOp) (k : IntKind) (x y : Int) : Option Value :=
  match op with
  | .add => some (.int k (k.wrap (x + y)))
  | .sub => some (.int k (k.wrap (x - y)))
  | .mul => some (.int k (k.wrap (x * y)))
  | .quo => if y = 0 then none else some (.int k (k.wrap (x.tdiv y)))
  | .rem => if y = 0 then none else some (.int k (x.tmod y))
  | .and => some (.int k (bits .and k x y))
  | .or => some (.int k (bits .or k x y))
  | .xor => some (.int k (bits .xor k x y))
  | .eql => some (.bool (x == y))
  | .neq => some (.bool (x != y))
  | .lss => some (.bool (x < y))
  | .leq => some (.bool (x ≤ y))
  | .gtr => some (.bool (x > y))
  | .geq => some (.bool (x ≥ y))
  | _ => none
def shV (op : BinOp) (k : IntKind) (x y : Int) : Option Value :=
  if y < 0 then none else
  match op with
  | .shl => some (.int k (k.wrap (x * 2 ^ (min y.toNat k.bits))))
  | .shr => some (.int k (x.fdiv (2 ^ (min y.toNat k.bits))))
  | _ => none
def isShift : BinOp → Bool
  | .shl | .shr => true
  | _ => false
def strV (op : BinOp) (x y : ByteArray) : Option Value :=
  match op with
  | .add => if x.size + y.size ≤ 9223372036854775807 then some (.string (x ++ y)) else none
  | .eql => some (.bool (x.toList == y.toList))
  | .neq => some (.bool !(x.toList == y.toList))
  | _ => none
def aggEq (P : Program) (t : TypeId) (xs ys : Array Value) : Option Bool :=
  match arInt P t with
  | some (n, k) => match intsOf k xs.toList, intsOf k ys.toList with
    | some l, some m => if l.length = n ∧ m.length = n then some (l == m) else none
    | _, _ => none
  | none => none
def binV (P : Program) (op : BinOp) (t : TypeId) : Value → Value → Option Value
  | .int k x, .int k' y => if isShift op then shV op k x y else if k = k' then intV op k x y else none
  | .string x, .string y => strV op x y
  | .bool x, .bool y => if isBoolT P t then (match op with | .eql => some (.bool (x == y)) | .neq => some (.bool (x != y)) | _ => none) else none
  | .agg xs, .agg ys => match op with | .eql => (aggEq P t xs ys).map .bool | .neq => (aggEq P t xs ys).map fun b => .bool !b | _ => none
  | _, _ => none
def unV (op : UnOp) : Value → Option Value
  | .int k n => match op with
    | .neg => some (.int k (k.wrap (0 - n)))
    | .xor => some (.int k (bits .xor k (if k.signed then -1 else k.max) n))
    | _ => none
  | .bool b => match op with | .not => some (.bool !b) | _ => none
  | _ => none

def isNilSl : Value → Bool
  | .slice none 0 0 => true
  | _ => false

/-! ### Calls -/

def GlobOK (G : Nat → List Value) (w : World) : Prop := ∀ g (j : Nat) x, (G g)[j]? = some x → w.cell? ⟨g, j, none⟩ = some x

def ArgRel (w : World) (x : AV) (u : Value) : Prop := Rel w (fun _ _ => True) (fun _ => 0) (fun _ => none) (fun _ => none) x u

/-- A slice that a callee hands back: nil, or at the head of a block of its own. -/
def RRow (base : Nat) (w : World) (sz : Nat) (xs : List CV) (u : Value) : Prop :=
  ((∃ ad, u = .slice ad 0 0) ∧ xs = []) ∨
    ∃ g n c cur e, u = .slice (some ⟨g, 0, none⟩) n c ∧ base ≤ g ∧ w.heap[g]? = some (.cells cur e (0, 0)) ∧ n ≤ c ∧ xs.length = n * sz ∧ c * sz ≤ cur.size ∧ ∀ (j : Nat) x, xs[j]? = some x → ∃ y, x = .v y ∧ cur[j]? = some y
def RRel (base : Nat) (w : World) : AV → Value → Prop
  | .v x, u => u = x
  | .sl _ sz xs, u => RRow base w sz xs u
  | .tup (.v y) b c, u => u = .tuple #[y, b, c]
  | .tup (.sl _ sz xs) b c, u => ∃ x, u = .tuple #[x, b, c] ∧ RRow base w sz xs x
  | _, _ => False

def ArgsRel (w : World) : List AV → List Value → Prop
  | [], [] => True
  | x :: r, u :: s => ArgRel w x u ∧ ArgsRel w r s
  | _, _ => False

def Spec (P : Program) (G : Nat → List Value) (f : FuncId) (args : List AV) (r : AV) : Prop :=
  ∀ (w : World) (vals : List Value), GlobOK G w → ArgsRel w args vals →
    Calls P f vals.toArray w fun e w' => ∃ v, e = .returned v ∧ RRel w.heap.size w' r v ∧ Below w.heap.size w w'

/-! ### Operations -/

def ev (G : Nat → List Value) (σ : St) : Operand → AV
  | .tmp t => σ.s t
  | .const v => .v v
  | .global g => .ep ((G g).map .v)
  | .func f => .v (.func (.func f) #[] #[])

def pickR : AV → AV → AV → Res → Prop
  | .v (.bool b), x, y, r => r = rv (if b then x else y)
  | _, _, _, _ => False

def assignR (σ : St) (ty : Option Nat) (dst : Option Nat) : AV → Res → Prop
  | .v (.slice none 0 0), r => ∃ d sz, dst = some d ∧ ty = some sz ∧ r = ⟨.sl (some d) sz [], none, [(d, some 0)], true⟩
  | .sl (some t) sz xs, r => ∃ d, dst = some d ∧ (t ≠ d ∧ r = ⟨.sl (some d) sz xs, none, [(t, none), (d, σ.o t)], true⟩ ∨ t = d ∧ r = rv (.sl none sz xs))
  | .bot, r => r = rv .bot
  | x, r => r = rv x

def loadC (k : Option (Option Nat)) (cs : List CV) (r : Res) : Prop :=
  match k with
  | some (some n) => ∃ ys, plain (cs.take n) = some ys ∧ ys.length = n ∧ r = rv (.v (.agg ys.toArray))
  | some none => ∃ x, cs.head? = some x ∧ r = rv (ofCV x)
  | none => False
def loadR (P : Program) (t : TypeId) (σ : St) : AV → Res → Prop
  | .ep xs, r => loadC (ldKind P t) xs r
  | .bp k off, r => ∃ cs, σ.b k = some cs ∧ loadC (ldKind P t) (cs.drop off) r
  | _, _ => False
def storeR (P : Program) (t : TypeId) (σ : St) (x : AV) : AV → Res → Prop
  | .bp k off, r => ∃ cs new n, σ.b k = some cs ∧ cellsAV x = some new ∧ szOf P t = some n ∧ new.length = n ∧ new.all CV.one = true ∧ off + n ≤ cs.length ∧ r = ⟨.bot, some (k, putL cs off new), [], false⟩
  | _, _ => False
def binR (P : Program) (op : BinOp) (t : TypeId) : AV → AV → Res → Prop
  | .v a, .v b, r => ∃ z, binV P op t a b = some z ∧ r = rv (.v z)
  | .sl _ _ xs, .v u, r => isNilSl u = true ∧ isSlT P t = true ∧ xs ≠ [] ∧ (op = .eql ∧ r = rv (.v (.bool false)) ∨ op = .neq ∧ r = rv (.v (.bool true)))
  | _, _, _ => False
def unR (op : UnOp) : AV → Res → Prop
  | .v a, r => ∃ z, unV op a = some z ∧ r = rv (.v z)
  | _, _ => False
def convR (σ : St) (c : Option Cvt) : AV → Res → Prop
  | .v (.int _ n), r => ∃ k, c = some (.toInt k) ∧ r = rv (.v (.int k (k.wrap n)))
  | .v (.string s), r => c = some .toBytes ∧ r = rv (.sl none 1 (bytesC s.data.toList))
  | .sl tag sz xs, r => (c = some .toStr ∧ sz = 1 ∧ ∃ l, bytesOf xs = some l ∧ r = rv (.v (.string ⟨l.toArray⟩))) ∨ ∃ t m, c = some .same ∧ tag = some t ∧ σ.o t = some m ∧ sz = 1 ∧ xs ≠ [] ∧ r = ⟨.sl none 1 xs, none, [(t, none)], false⟩
  | _, _ => False
def arrayR (a : Option (Nat × Nat)) : AV → Res → Prop
  | .sl _ sz xs, r => ∃ n, a = some (n, 1) ∧ sz = 1 ∧ 0 < n ∧ n ≤ xs.length ∧ r = rv (.ep xs)
  | .bs k off len, r => ∃ n, a = some (n, 1) ∧ n ≤ len ∧ r = rv (.bp k off)
  | _, _ => False
def makeFuncR : Fn → List AV → List AV → Res → Prop
  | .func f, [], [], r => r = rv (.v (.func (.func f) #[] #[]))
  | .func f, [], [.bp k 0], r => r = rv (.fn f k)
  | _, _, _, _ => False
def makeSliceR (dst : Option Nat) (z : Option (List Value)) (b : Option (Nat × Nat)) : AV → AV → Res → Prop
  | .v (.int .i64 n), .v (.int .i64 m), r => ∃ d x, dst = some d ∧ z = some [x] ∧ b = some (1, 1) ∧ n = m ∧ 0 ≤ n ∧ n ≤ 1099511627776 ∧ r = ⟨.sl (some d) 1 (List.replicate n.toNat (.v x)), none, [(d, some n.toNat)], true⟩
  | _, _, _ => False

/-- A bound of a slice expression: given, or its default. -/
def boundR (dflt : Nat) : Option AV → Nat → Prop
  | none, l => l = dflt
  | some (.v (.int _ n)), l => 0 ≤ n ∧ l = n.toNat
  | _, _ => False
def sliceR (P : Program) (t : TypeId) (lo hi mx : Option AV) : AV → Res → Prop
  | .v (.string s), r => isStrT P t = true ∧ mx = none ∧ ∃ l h, boundR 0 lo l ∧ boundR s.size hi h ∧ l ≤ h ∧ h ≤ s.size ∧ r = rv (.v (.string (s.extract l h)))
  | .sl _ sz xs, r => ∃ b n l h, slEl P t = some (sz, b) ∧ 0 < sz ∧ n = xs.length / sz ∧ boundR 0 lo l ∧ boundR n hi h ∧ l ≤ h ∧ h ≤ n ∧
      (mx = none ∧ r = rv (.sl none sz ((xs.take (h * sz)).drop (l * sz))) ∨ ∃ m, hi ≠ none ∧ boundR 0 mx m ∧ mx ≠ none ∧ m = h ∧ r = rv (.cl sz ((xs.take (h * sz)).drop (l * sz))))
  | .bp k off, r => mx = none ∧ ∃ n l h, arEl P t = some (n, 1) ∧ boundR 0 lo l ∧ boundR n hi h ∧ l ≤ h ∧ h ≤ n ∧ l < n ∧ r = rv (.bs k (off + l) (h - l))
  | .ep xs, r => mx = none ∧ ∃ n l h, arEl P t = some (n, 1) ∧ boundR 0 lo l ∧ boundR n hi h ∧ l ≤ h ∧ h ≤ n ∧ n ≤ xs.length ∧ r = rv (.sl none 1 ((xs.take h).drop l))
  | _, _ => False
def fieldAddrR (f : Option Nat) : AV → Res → Prop
  | .bp k off, r => ∃ d, f = some d ∧ r = rv (.bp k (off + d))
  | .ep xs, r => ∃ d, f = some d ∧ r = rv (.ep (xs.drop d))
  | _, _ => False
def indexAddrR (P : Program) (t : TypeId) (i : AV) (x : AV) (r : Res) : Prop :=
  match i with
  | .v (.int _ i) => match x with
    | .sl _ sz xs => ∃ b, slEl P t = some (sz, b) ∧ 0 ≤ i ∧ i.toNat * sz < xs.length ∧ r = rv (.ep (xs.drop (i.toNat * sz)))
    | .bs k off len => ∃ b, slEl P t = some (1, b) ∧ 0 ≤ i ∧ i < len ∧ r = rv (.bp k (off + i.toNat))
    | .bp k off => ∃ n sz, arEl P t = some (n, sz) ∧ 0 ≤ i ∧ i < n ∧ r = rv (.bp k (off + i.toNat * sz))
    | .ep xs => ∃ n sz, arEl P t = some (n, sz) ∧ 0 ≤ i ∧ i < n ∧ r = rv (.ep (xs.drop (i.toNat * sz)))
    | _ => False
  | _ => False
def indexR (P : Program) (t : TypeId) (i : AV) (x : AV) (r : Res) : Prop :=
  match i with
  | .v (.int _ i) => match x with
    | .v (.string s) => isStrT P t = true ∧ 0 ≤ i ∧ ∃ b, s.data.toList[i.toNat]? = some b ∧ r = rv (.v (.int .u8 b.toNat))
    | .v (.agg cs) => ∃ n k, arInt P t = some (n, k) ∧ 0 ≤ i ∧ i < n ∧ ∃ u, cs.toList[i.toNat]? = some u ∧ r = rv (.v u)
    | _ => False
  | _ => False
def extractR (i : Nat) : AV → Res → Prop
  | .tup a b c, r => match i with | 0 => r = rv a | 1 => r = rv (.v b) | 2 => r = rv (.v c) | _ => False
  | _, _ => False

def argOf (σ : St) : AV → Option AV
  | .v x => some (.v x)
  | .sl _ sz xs => some (.sl none sz xs)
  | .cl sz xs => some (.sl none sz xs)
  | .emp sz => some (.sl none sz [])
  | .ep xs => some (.ep xs)
  | .bp k off => (σ.b k).map fun cs => .ep (cs.drop off)
  | .bs k off len => (σ.b k).bind fun cs => if off + len ≤ cs.length then some (.sl none 1 ((cs.drop off).take len)) else none
  | _ => none
def argsOf (σ : St) : List AV → Option (List AV)
  | [] => some []
  | x :: r => match argOf σ x, argsOf σ r with
    | some y, some s => some (y :: s)
    | _, _ => none
def resOf (d : Nat) : AV → Res
  | .sl _ sz xs => ⟨.sl (some d) sz xs, none, [(d, some xs.length)], true⟩
  | .tup (.sl _ sz xs) b c => ⟨.tup (.sl (some d) sz xs) b c, none, [(d, some xs.length)], true⟩
  | .v x => rv (.v x)
  | .tup (.v x) b c => rv (.tup (.v x) b c)
  | _ => rv .bot
def hasBody (P : Program) (f : FuncId) : Bool := ((P.funcs[f]?).map fun fn => fn.body.isSome && fn.name != "runtime.NumGoroutine").getD false
def callR (P : Program) (G : Nat → List Value) (σ : St) (dst : Option Nat) (args : List AV) : AV → Res → Prop
  | .v (.func (.func f) first caps), r => first = #[] ∧ caps = #[] ∧ hasBody P f = true ∧ ∃ d as R, dst = some d ∧ argsOf σ args = some as ∧ Spec P G f as R ∧ r = resOf d R
  | .fn f k, r => hasBody P f = true ∧ ∃ d as R, dst = some d ∧ argsOf σ (args ++ [.bp k 0]) = some as ∧ Spec P G f as R ∧ r = resOf d R
  | _, _ => False
def srcOf (sz : Nat) : AV → Option (List CV)
  | .sl _ sz' ys => if sz' = sz then some ys else none
  | .cl sz' ys => if sz' = sz then some ys else none
  | .emp sz' => if sz' = sz then some [] else none
  | .v (.string s) => if sz = 1 then some (bytesC s.data.toList) else none
  | .v (.slice none 0 0) => some []
  | _ => none
def appendR (H : Nat → Bool) (σ : St) (dst : Option Nat) (el : Option (Nat × Nat)) (x : AV) : AV → Res → Prop
  | .sl (some t) sz xs, r => ∃ d b ys, dst = some d ∧ el = some (sz, b) ∧ 0 < sz ∧ srcOf sz x = some ys ∧ ys.all CV.one = true ∧ σ.o t = some xs.length ∧ (xs.length + ys.length) * b ≤ 140737488355328 ∧ (xs.length + ys.length) ≤ 140737488355328 ∧
      r = ⟨.sl (some d) sz (xs ++ ys), none, [(t, none), (d, some (xs ++ ys).length)], true⟩
  | .v (.slice none 0 0), r => ∃ d sz b ys, dst = some d ∧ el = some (sz, b) ∧ 0 < sz ∧ srcOf sz x = some ys ∧ ys.all CV.one = true ∧ ys.length * b ≤ 140737488355328 ∧ ys.length ≤ 140737488355328 ∧ r = ⟨.sl (some d) sz ys, none, [(d, some ys.length)], true⟩
  | .emp sz, r => ∃ d b ys, dst = some d ∧ el = some (sz, b) ∧ 0 < sz ∧ srcOf sz x = some ys ∧ ys.all CV.one = true ∧ ys.length * b ≤ 140737488355328 ∧ ys.length ≤ 140737488355328 ∧
      (if H d then ys ≠ [] ∧ sz = 1 ∧ r = ⟨.bs d 0 ys.length, some (d, ys), [], true⟩ else r = ⟨.sl (some d) sz ys, none, [(d, some ys.length)], true⟩)
  | .cl sz xs, r => ∃ b ys, el = some (sz, b) ∧ 0 < sz ∧ srcOf sz x = some ys ∧ ys.all CV.one = true ∧ (xs.length + ys.length) * b ≤ 140737488355328 ∧ (xs.length + ys.length) ≤ 140737488355328 ∧ r = rv (.sl none sz (xs ++ ys))
  | _, _ => False
def lenR (P : Program) (t : TypeId) : AV → Res → Prop
  | .v (.string s), r => isStrT P t = true ∧ r = rv (.v (.int .i64 s.size))
  | .sl _ sz xs, r => (slEl P t).map (·.1) = some sz ∧ 0 < sz ∧ r = rv (.v (.int .i64 (xs.length / sz : Nat)))
  | .cl sz xs, r => (slEl P t).map (·.1) = some sz ∧ 0 < sz ∧ r = rv (.v (.int .i64 (xs.length / sz : Nat)))
  | .bs _ _ len, r => isSlT P t = true ∧ r = rv (.v (.int .i64 len))
  | .emp _, r => isSlT P t = true ∧ r = rv (.v (.int .i64 0))
  | .v (.slice none 0 0), r => isSlT P t = true ∧ r = rv (.v (.int .i64 0))
  | _, _ => False
def copyR (σ : St) (el : Option (Nat × Nat)) : AV → AV → Res → Prop
  | .bs k off len, .v (.string s), r => ∃ cs b, el = some (1, b) ∧ σ.b k = some cs ∧ off + len ≤ cs.length ∧ r = ⟨.v (.int .i64 (min s.size len : Nat)), some (k, putL cs off (bytesC (s.data.toList.take len))), [], false⟩
  | _, _, _ => False
def mm2 (mx : Bool) : List AV → Res → Prop
  | [.v (.int k x), .v (.int k' y)], r => k = k' ∧ r = rv (.v (.int k (if mx then (if y > x then y else x) else (if y < x then y else x))))
  | _, _ => False
def partsV : List (Nat × AV) → Option (List (Nat × List CV))
  | [] => some []
  | (i, x) :: r => match cellsAV x, partsV r with
    | some c, some s => some ((i, c) :: s)
    | _, _ => none
def fillC (place : Nat → Option (Nat × Nat)) (cs : List CV) : List (Nat × List CV) → Option (List CV)
  | [] => some cs
  | (i, v) :: r => match place i with
    | some (off, n) => if v.length = n ∧ off + n ≤ cs.length then fillC place (putL cs off v) r else none
    | none => none
def buildR (P : Program) (t : TypeId) (parts : List (Nat × AV)) (r : Res) : Prop :=
  ∃ z ps cs ys, zCells P t = some z ∧ partsV parts = some ps ∧ fillC (placeOf P t) (z.map .v) ps = some cs ∧ plain cs = some ys ∧ bdOK P t = true ∧ r = rv (.v (.agg ys.toArray))
def repeatL {α : Type} (l : List α) : Nat → List α
  | 0 => []
  | n + 1 => l ++ repeatL l n
def buildSliceR (P : Program) (t : TypeId) (dst : Option Nat) (len : Nat) (parts : List (Nat × AV)) (r : Res) : Prop :=
  match len with
  | 0 => ∃ sz b, parts = [] ∧ slEl P t = some (sz, b) ∧ r = rv (.emp sz)
  | len + 1 => ∃ d sz b z ps cs, dst = some d ∧ slEl P t = some (sz, b) ∧ 0 < sz ∧ (len + 1) * sz ≤ 16777216 ∧ slZero P t = some z ∧ partsV parts = some ps ∧
    fillC (fun i => some (i * sz, sz)) ((repeatL z (len + 1)).map .v) ps = some cs ∧ r = ⟨.sl (some d) sz cs, none, [(d, some cs.length)], true⟩

def core (P : Program) (G : Nat → List Value) (H : Nat → Bool) (σ : St) (dst : Option Nat) (ty : TypeId) (op : Op) (r : Res) : Prop :=
  match op with
  | .move x => r = rv (ev G σ x)
  | .assign x => assignR σ ((slEl P ty).map (·.1)) dst (ev G σ x) r
  | .pick c x y => pickR (ev G σ c) (ev G σ x) (ev G σ y) r
  | .alloc t => ∃ d z, dst = some d ∧ zCells P t = some z ∧ r = ⟨.bp d 0, some (d, z.map .v), [], true⟩
  | .box _ x => ∃ d cs, dst = some d ∧ cellsAV (ev G σ x) = some cs ∧ r = ⟨.bp d 0, some (d, cs), [], true⟩
  | .build t ps => buildR P t (ps.toList.map fun p => (p.1, ev G σ p.2)) r
  | .buildSlice t n ps => buildSliceR P t dst n (ps.toList.map fun p => (p.1, ev G σ p.2)) r
  | .load t x => loadR P t σ (ev G σ x) r
  | .store t a x => dst = none ∧ storeR P t σ (ev G σ x) (ev G σ a) r
  | .binOp op t x y _ => binR P op t (ev G σ x) (ev G σ y) r
  | .unOp op _ x => unR op (ev G σ x) r
  | .convert s d x => convR σ (cvt P s d) (ev G σ x) r
  | .sliceToArrayPointer t x => arrayR (arEl P t) (ev G σ x) r
  | .makeFunc f xs cs => makeFuncR f (xs.toList.map (ev G σ)) (cs.toList.map (ev G σ)) r
  | .makeSlice t l c => makeSliceR dst (slZero P t) (slEl P t) (ev G σ l) (ev G σ c) r
  | .slice t x lo hi mx => sliceR P t (lo.map (ev G σ)) (hi.map (ev G σ)) (mx.map (ev G σ)) (ev G σ x) r
  | .fieldAddr t x f => fieldAddrR (fOff P t f) (ev G σ x) r
  | .indexAddr t x i => indexAddrR P t (ev G σ i) (ev G σ x) r
  | .index t x i => indexR P t (ev G σ i) (ev G σ x) r
  | .extract x i => extractR i (ev G σ x) r
  | .call { callee := .value f, args, .. } => callR P G σ dst (args.toList.map (ev G σ)) (ev G σ f) r
  | .call { callee := .builtin .len, args, argTypes } => match args.toList, argTypes.toList with | [x], [t] => lenR P t (ev G σ x) r | _, _ => False
  | .call { callee := .builtin .append, args, argTypes } => match args.toList, argTypes.toList with
    | [x, y], [t, u] => (isSlT P u = true ∨ isStrT P u = true) ∧ appendR H σ dst (slEl P t) (ev G σ y) (ev G σ x) r
    | _, _ => False
  | .call { callee := .builtin .copy, args, argTypes } => match args.toList, argTypes.toList with
    | [x, y], [t, _] => copyR σ (slEl P t) (ev G σ x) (ev G σ y) r
    | _, _ => False
  | .call { callee := .builtin .min, args, .. } => mm2 false (args.toList.map (ev G σ)) r
  | .call { callee := .builtin .max, args, .. } => mm2 true (args.toList.map (ev G σ)) r
  | _ => False

end Abs
end Go.Proofs.YtkdpmjgigknbpaaDoor
