/-
  How an operation's effect is reckoned, form by form: the rules by which the walks go.
-/
import Derived.Test.YtkdpmjgigknbpaaDoorA15
namespace Go.Proofs.YtkdpmjgigknbpaaDoor
namespace Abs
open Go.RowKit
set_option linter.unusedSimpArgs false

variable {P : Program} {G : Nat → List Value} {H : Nat → Bool} {σ : St} {d : Option Nat} {t ty : TypeId} {K : Res → Prop} {K' : St → Prop}

theorem kst_some {n : Nat} {x : AV} : kst K' σ (some n) (rv x) = K' ⟨upd σ.s n x, σ.b, σ.o⟩ := rfl
theorem kst_none {x : AV} : kst K' σ none (rv x) = K' σ := rfl
theorem kst_site {n : Nat} {x : AV} {bu : Option (Nat × List CV)} {ou : List (Nat × Option Nat)} : kst K' σ (some n) ⟨x, bu, ou, true⟩ = K' ((σ.kill n).app (some n) ⟨x, bu, ou, true⟩) := rfl
theorem kst_plain {dst : Option Nat} {x : AV} {bu : Option (Nat × List CV)} {ou : List (Nat × Option Nat)} : kst K' σ dst ⟨x, bu, ou, false⟩ = K' (σ.app dst ⟨x, bu, ou, false⟩) := by
  cases dst <;> rfl
theorem app_some {n : Nat} {x : AV} {bu : Option (Nat × List CV)} {ou : List (Nat × Option Nat)} {st : Bool} : σ.app (some n) ⟨x, bu, ou, st⟩ = ⟨upd σ.s n x, (match bu with | some (k, cs) => upd σ.b k (some cs) | none => σ.b), ou.foldl (fun o x => upd o x.1 x.2) σ.o⟩ := rfl
theorem app_none {x : AV} {bu : Option (Nat × List CV)} {ou : List (Nat × Option Nat)} {st : Bool} : σ.app none ⟨x, bu, ou, st⟩ = ⟨σ.s, (match bu with | some (k, cs) => upd σ.b k (some cs) | none => σ.b), ou.foldl (fun o x => upd o x.1 x.2) σ.o⟩ := rfl

/-! ### core -/
theorem core_move {x : Operand} : ex (core P G H σ d ty (.move x)) K = K (rv (ev G σ x)) := by simp [ex, core]
theorem core_assign {x : Operand} : core P G H σ d ty (.assign x) = assignR σ ((slEl P ty).map (·.1)) d (ev G σ x) := rfl
theorem core_pick {c x y : Operand} : core P G H σ d ty (.pick c x y) = pickR (ev G σ c) (ev G σ x) (ev G σ y) := rfl
def allocR (d : Option Nat) (z : Option (List Value)) (r : Res) : Prop := ∃ d' z', d = some d' ∧ z = some z' ∧ r = ⟨.bp d' 0, some (d', z'.map .v), [], true⟩
def boxR (d : Option Nat) (cs : Option (List CV)) (r : Res) : Prop := ∃ d' cs', d = some d' ∧ cs = some cs' ∧ r = ⟨.bp d' 0, some (d', cs'), [], true⟩
theorem core_alloc : core P G H σ d ty (.alloc t) = allocR d (zCells P t) := rfl
theorem core_box {x : Operand} : core P G H σ d ty (.box t x) = boxR d (cellsAV (ev G σ x)) := rfl
theorem core_build {ps : Array (Nat × Operand)} : core P G H σ d ty (.build t ps) = buildR P t (ps.toList.map fun p => (p.1, ev G σ p.2)) := rfl
theorem core_buildSlice {n : Nat} {ps : Array (Nat × Operand)} : core P G H σ d ty (.buildSlice t n ps) = buildSliceR P t d n (ps.toList.map fun p => (p.1, ev G σ p.2)) := rfl
theorem core_load {x : Operand} : core P G H σ d ty (.load t x) = loadR P t σ (ev G σ x) := rfl
theorem core_store {x y : Operand} : ex (core P G H σ none ty (.store t x y)) K = ex (storeR P t σ (ev G σ y) (ev G σ x)) K := by simp [ex, core]
theorem core_bin {op : BinOp} {x y : Operand} {u : TypeId} : core P G H σ d ty (.binOp op t x y u) = binR P op t (ev G σ x) (ev G σ y) := rfl
theorem core_un {op : UnOp} {x : Operand} : core P G H σ d ty (.unOp op t x) = unR op (ev G σ x) := rfl
theorem core_convert {x : Operand} {u : TypeId} : core P G H σ d ty (.convert t u x) = convR σ (cvt P t u) (ev G σ x) := rfl
theorem core_array {x : Operand} : core P G H σ d ty (.sliceToArrayPointer t x) = arrayR (arEl P t) (ev G σ x) := rfl
theorem core_makeFunc {f : Fn} {xs cs : Array Operand} : core P G H σ d ty (.makeFunc f xs cs) = makeFuncR f (xs.toList.map (ev G σ)) (cs.toList.map (ev G σ)) := rfl
theorem core_makeSlice {x y : Operand} : core P G H σ d ty (.makeSlice t x y) = makeSliceR d (slZero P t) (slEl P t) (ev G σ x) (ev G σ y) := rfl
theorem core_slice {x : Operand} {lo hi mx : Option Operand} : core P G H σ d ty (.slice t x lo hi mx) = sliceR P t (lo.map (ev G σ)) (hi.map (ev G σ)) (mx.map (ev G σ)) (ev G σ x) := rfl
theorem core_fieldAddr {x : Operand} {f : Nat} : core P G H σ d ty (.fieldAddr t x f) = fieldAddrR (fOff P t f) (ev G σ x) := rfl
theorem core_indexAddr {x i : Operand} : core P G H σ d ty (.indexAddr t x i) = indexAddrR P t (ev G σ i) (ev G σ x) := rfl
theorem core_index {x i : Operand} : core P G H σ d ty (.index t x i) = indexR P t (ev G σ i) (ev G σ x) := rfl
theorem core_extract {x : Operand} {i : Nat} : core P G H σ d ty (.extract x i) = extractR i (ev G σ x) := rfl
theorem core_call {f : Operand} {args : Array Operand} {ts : Array TypeId} : core P G H σ d ty (.call ⟨.value f, args, ts⟩) = callR P G σ d (args.toList.map (ev G σ)) (ev G σ f) := rfl
theorem core_len {x : Operand} : core P G H σ d ty (.call ⟨.builtin .len, #[x], #[t]⟩) = lenR P t (ev G σ x) := rfl
theorem core_append {x y : Operand} {u : TypeId} : ex (core P G H σ d ty (.call ⟨.builtin .append, #[x, y], #[t, u]⟩)) K = ((isSlT P u = true ∨ isStrT P u = true) ∧ ex (appendR H σ d (slEl P t) (ev G σ y) (ev G σ x)) K) := by
  apply propext
  constructor
  · rintro ⟨r, ⟨h1, h2⟩, h3⟩; exact ⟨h1, r, h2, h3⟩
  · rintro ⟨h1, r, h2, h3⟩; exact ⟨r, ⟨h1, h2⟩, h3⟩
theorem core_copy {x y : Operand} {u : TypeId} : core P G H σ d ty (.call ⟨.builtin .copy, #[x, y], #[t, u]⟩) = copyR σ (slEl P t) (ev G σ x) (ev G σ y) := rfl
theorem core_min {args : Array Operand} {ts : Array TypeId} : core P G H σ d ty (.call ⟨.builtin .min, args, ts⟩) = mm2 false (args.toList.map (ev G σ)) := rfl
theorem core_max {args : Array Operand} {ts : Array TypeId} : core P G H σ d ty (.call ⟨.builtin .max, args, ts⟩) = mm2 true (args.toList.map (ev G σ)) := rfl

/-! ### the relations -/
theorem ex_pick {b : Bool} {x y : AV} : ex (pickR (.v (.bool b)) x y) K = K (rv (if b then x else y)) := by simp [ex, pickR]
section assign
variable {z : Option Nat}
theorem ex_assign_int {k : IntKind} {n : Int} : ex (assignR σ z d (.v (.int k n))) K = K (rv (.v (.int k n))) := by simp [ex, assignR]
theorem ex_assign_bool {b : Bool} : ex (assignR σ z d (.v (.bool b))) K = K (rv (.v (.bool b))) := by simp [ex, assignR]
theorem ex_assign_string {s : ByteArray} : ex (assignR σ z d (.v (.string s))) K = K (rv (.v (.string s))) := by simp [ex, assignR]
theorem ex_assign_agg {s : Array Value} : ex (assignR σ z d (.v (.agg s))) K = K (rv (.v (.agg s))) := by simp [ex, assignR]
theorem ex_assign_func {f : Fn} {x y : Array Value} : ex (assignR σ z d (.v (.func f x y))) K = K (rv (.v (.func f x y))) := by simp [ex, assignR]
theorem ex_assign_nil {n sz : Nat} : ex (assignR σ (some sz) (some n) (.v (.slice none 0 0))) K = K ⟨.sl (some n) sz [], none, [(n, some 0)], true⟩ := by simp [ex, assignR]
theorem ex_assign_own {n m sz : Nat} {xs : List CV} (h : (m == n) = false) : ex (assignR σ z (some n) (.sl (some m) sz xs)) K = K ⟨.sl (some n) sz xs, none, [(m, none), (n, σ.o m)], true⟩ := by
  have : m ≠ n := by simpa using h
  simp [ex, assignR, this]
theorem ex_assign_self {n sz : Nat} {xs : List CV} : ex (assignR σ z (some n) (.sl (some n) sz xs)) K = K (rv (.sl none sz xs)) := by simp [ex, assignR]
theorem ex_assign_sl {sz : Nat} {xs : List CV} : ex (assignR σ z d (.sl none sz xs)) K = K (rv (.sl none sz xs)) := by simp [ex, assignR]
theorem ex_assign_cl {sz : Nat} {xs : List CV} : ex (assignR σ z d (.cl sz xs)) K = K (rv (.cl sz xs)) := by simp [ex, assignR]
theorem ex_assign_emp {sz : Nat} : ex (assignR σ z d (.emp sz)) K = K (rv (.emp sz)) := by simp [ex, assignR]
theorem ex_assign_tup {x : AV} {b c : Value} : ex (assignR σ z d (.tup x b c)) K = K (rv (.tup x b c)) := by simp [ex, assignR]
theorem ex_assign_bp {k off : Nat} : ex (assignR σ z d (.bp k off)) K = K (rv (.bp k off)) := by simp [ex, assignR]
theorem ex_assign_bs {k off l : Nat} : ex (assignR σ z d (.bs k off l)) K = K (rv (.bs k off l)) := by simp [ex, assignR]
theorem ex_assign_fn {f k : Nat} : ex (assignR σ z d (.fn f k)) K = K (rv (.fn f k)) := by simp [ex, assignR]
theorem ex_assign_bot : ex (assignR σ z d .bot) K = K (rv .bot) := by simp [ex, assignR]
end assign

theorem ex_alloc {n : Nat} {z : List Value} : ex (allocR (some n) (some z)) K = K ⟨.bp n 0, some (n, z.map .v), [], true⟩ := by simp [ex, allocR]
theorem ex_box {n : Nat} {z : List CV} : ex (boxR (some n) (some z)) K = K ⟨.bp n 0, some (n, z), [], true⟩ := by simp [ex, boxR]

/-- The first cell is this. -/
def exHead : Option CV → (Res → Prop) → Prop
  | some x, K => K (rv (ofCV x))
  | none, _ => False
def exPlain (n : Nat) : Option (List Value) → (Res → Prop) → Prop
  | some ys, K => ys.length = n ∧ K (rv (.v (.agg ys.toArray)))
  | none, _ => False
def exBoxed (k : Option (Option Nat)) (off : Nat) : Option (List CV) → (Res → Prop) → Prop
  | some cs, K => ex (loadC k (cs.drop off)) K
  | none, _ => False
theorem ex_loadC_one {xs : List CV} : ex (loadC (some none) xs) K = exHead xs.head? K := by
  cases xs <;> simp [ex, loadC, exHead]
theorem ex_loadC_agg {n : Nat} {xs : List CV} : ex (loadC (some (some n)) xs) K = exPlain n (plain (xs.take n)) K := by
  cases h : plain (xs.take n) with
  | none => simp [ex, loadC, exPlain, h]
  | some ys => simp [ex, loadC, exPlain, h]; exact ⟨fun ⟨r, ⟨h1, h2⟩, h3⟩ => ⟨h1, by rw [← h2]; exact h3⟩, fun ⟨h1, h2⟩ => ⟨_, ⟨h1, rfl⟩, h2⟩⟩
theorem ex_load_ep {xs : List CV} : ex (loadR P t σ (.ep xs)) K = ex (loadC (ldKind P t) xs) K := rfl
theorem ex_load_bp {k off : Nat} : ex (loadR P t σ (.bp k off)) K = exBoxed (ldKind P t) off (σ.b k) K := by
  cases h : σ.b k with
  | none => simp [ex, loadR, exBoxed, h]
  | some cs => simp [ex, loadR, exBoxed, h]

def exPut (k off : Nat) : Option (List CV) → Option (List CV) → Option Nat → (Res → Prop) → Prop
  | some cs, some new, some n, K => new.length = n ∧ new.all CV.one = true ∧ off + n ≤ cs.length ∧ K ⟨.bot, some (k, putL cs off new), [], false⟩
  | _, _, _, _ => False
theorem ex_store {k off : Nat} {x : AV} : ex (storeR P t σ x (.bp k off)) K = exPut k off (σ.b k) (cellsAV x) (szOf P t) K := by
  cases h1 : σ.b k <;> cases h2 : cellsAV x <;> cases h3 : szOf P t <;> simp [ex, storeR, exPut, h1, h2, h3]
  constructor
  · rintro ⟨r, ⟨a, b, c, rfl⟩, hk⟩; exact ⟨a, b, c, hk⟩
  · rintro ⟨a, b, c, hk⟩; exact ⟨_, ⟨a, b, c, rfl⟩, hk⟩

def exO : Option Value → (Res → Prop) → Prop
  | some z, K => K (rv (.v z))
  | none, _ => False
theorem ex_bin {op : BinOp} {a b : Value} : ex (binR P op t (.v a) (.v b)) K = exO (binV P op t a b) K := by
  cases h : binV P op t a b <;> simp [ex, binR, exO, h]
theorem ex_bin_nil_eq {tag : Option Nat} {sz : Nat} {xs : List CV} : ex (binR P .eql t (.sl tag sz xs) (.v (.slice none 0 0))) K = (isSlT P t = true ∧ xs ≠ [] ∧ K (rv (.v (.bool false)))) := by
  simp [ex, binR, isNilSl]
  constructor
  · rintro ⟨r, ⟨a, b, rfl⟩, hk⟩; exact ⟨a, b, hk⟩
  · rintro ⟨a, b, hk⟩; exact ⟨_, ⟨a, b, rfl⟩, hk⟩
theorem ex_un {op : UnOp} {a : Value} : ex (unR op (.v a)) K = exO (unV op a) K := by
  cases h : unV op a <;> simp [ex, unR, exO, h]
theorem ex_conv_int {k k' : IntKind} {n : Int} : ex (convR σ (some (.toInt k)) (.v (.int k' n))) K = K (rv (.v (.int k (k.wrap n)))) := by simp [ex, convR]
theorem ex_conv_bytes {s : ByteArray} : ex (convR σ (some .toBytes) (.v (.string s))) K = K (rv (.sl none 1 (bytesC s.data.toList))) := by simp [ex, convR]
def exStr : Option (List UInt8) → (Res → Prop) → Prop
  | some l, K => K (rv (.v (.string ⟨l.toArray⟩)))
  | none, _ => False
theorem ex_conv_str {tag : Option Nat} {xs : List CV} : ex (convR σ (some .toStr) (.sl tag 1 xs)) K = exStr (bytesOf xs) K := by
  cases h : bytesOf xs <;> simp [ex, convR, exStr, h]
theorem ex_conv_same {t' : Nat} {xs : List CV} : ex (convR σ (some .same) (.sl (some t') 1 xs)) K = ((σ.o t').isSome = true ∧ xs ≠ [] ∧ K ⟨.sl none 1 xs, none, [(t', none)], false⟩) := by
  apply propext
  constructor
  · rintro ⟨r, hr, hk⟩
    rcases hr with ⟨h, _⟩ | ⟨t, m, _, h2, h3, _, h5, rfl⟩
    · cases h
    · cases h2
      exact ⟨by rw [h3]; rfl, h5, hk⟩
  · rintro ⟨h1, h2, hk⟩
    obtain ⟨m, hm⟩ := Option.isSome_iff_exists.1 h1
    exact ⟨_, .inr ⟨t', m, rfl, rfl, hm, rfl, h2, rfl⟩, hk⟩
theorem ex_array_sl {tag : Option Nat} {n : Nat} {xs : List CV} : ex (arrayR (some (n, 1)) (.sl tag 1 xs)) K = (0 < n ∧ n ≤ xs.length ∧ K (rv (.ep xs))) := by
  simp [ex, arrayR]
  constructor
  · rintro ⟨r, ⟨a, b, rfl⟩, hk⟩; exact ⟨a, b, hk⟩
  · rintro ⟨a, b, hk⟩; exact ⟨_, ⟨a, b, rfl⟩, hk⟩
theorem ex_array_bs {n k off len : Nat} : ex (arrayR (some (n, 1)) (.bs k off len)) K = (n ≤ len ∧ K (rv (.bp k off))) := by
  simp [ex, arrayR]
  constructor
  · rintro ⟨r, ⟨a, rfl⟩, hk⟩; exact ⟨a, hk⟩
  · rintro ⟨a, hk⟩; exact ⟨_, ⟨a, rfl⟩, hk⟩
theorem ex_makeFunc0 {f : FuncId} : ex (makeFuncR (.func f) [] []) K = K (rv (.v (.func (.func f) #[] #[]))) := by simp [ex, makeFuncR]
theorem ex_makeFunc1 {f : FuncId} {k : Nat} : ex (makeFuncR (.func f) [] [.bp k 0]) K = K (rv (.fn f k)) := by simp [ex, makeFuncR]
theorem ex_makeSlice {n : Nat} {x : Value} {m : Int} : ex (makeSliceR (some n) (some [x]) (some (1, 1)) (.v (.int .i64 m)) (.v (.int .i64 m))) K = (0 ≤ m ∧ m ≤ 1099511627776 ∧ K ⟨.sl (some n) 1 (List.replicate m.toNat (.v x)), none, [(n, some m.toNat)], true⟩) := by
  simp [ex, makeSliceR]
  constructor
  · rintro ⟨r, ⟨a, b, rfl⟩, hk⟩; exact ⟨a, b, hk⟩
  · rintro ⟨a, b, hk⟩; exact ⟨_, ⟨a, b, rfl⟩, hk⟩

/-- A bound as a number, and what it owes. -/
def bnd (dflt : Nat) : Option AV → Nat
  | some (.v (.int _ n)) => n.toNat
  | _ => dflt
def bndOK : Option AV → Prop
  | none => True
  | some (.v (.int _ n)) => 0 ≤ n
  | _ => False
theorem boundR_iff {dflt l : Nat} {x : Option AV} : boundR dflt x l ↔ bndOK x ∧ l = bnd dflt x := by
  unfold boundR
  split
  · simp [bndOK, bnd]
  · simp [bndOK, bnd]
  · rename_i h1 h2
    constructor
    · exact fun h => h.elim
    · rintro ⟨h, _⟩
      unfold bndOK at h
      split at h
      · exact h1 rfl
      · exact h2 _ _ rfl
      · exact h
theorem ex_slice_str {lo hi : Option AV} {s : ByteArray} : ex (sliceR P t lo hi none (.v (.string s))) K = (isStrT P t = true ∧ bndOK lo ∧ bndOK hi ∧ bnd 0 lo ≤ bnd s.size hi ∧ bnd s.size hi ≤ s.size ∧ K (rv (.v (.string (s.extract (bnd 0 lo) (bnd s.size hi)))))) := by
  apply propext
  simp only [ex, sliceR, boundR_iff]
  constructor
  · rintro ⟨r, ⟨a, _, l, h, ⟨b, rfl⟩, ⟨c, rfl⟩, e, f, rfl⟩, hk⟩; exact ⟨a, b, c, e, f, hk⟩
  · rintro ⟨a, b, c, e, f, hk⟩; exact ⟨_, ⟨a, trivial, _, _, ⟨b, rfl⟩, ⟨c, rfl⟩, e, f, rfl⟩, hk⟩
def exSl (el : Option (Nat × Nat)) (lo hi : Option AV) (sz : Nat) (xs : List CV) (K : List CV → Prop) : Prop :=
  el.map (·.1) = some sz ∧ 0 < sz ∧ bndOK lo ∧ bndOK hi ∧ bnd 0 lo ≤ bnd (xs.length / sz) hi ∧ bnd (xs.length / sz) hi ≤ xs.length / sz ∧ K ((xs.take (bnd (xs.length / sz) hi * sz)).drop (bnd 0 lo * sz))
theorem ex_slice_sl {lo hi : Option AV} {tag : Option Nat} {sz : Nat} {xs : List CV} : ex (sliceR P t lo hi none (.sl tag sz xs)) K = exSl (slEl P t) lo hi sz xs (fun l => K (rv (.sl none sz l))) := by
  apply propext
  simp only [ex, sliceR, boundR_iff, exSl, Option.map_eq_some_iff, Prod.exists]
  constructor
  · rintro ⟨r, ⟨b, n, l, h, e1, e2, rfl, ⟨e3, rfl⟩, ⟨e4, rfl⟩, e5, e6, e7⟩, hk⟩
    rcases e7 with ⟨_, rfl⟩ | ⟨_, _, _, hn, _⟩
    · exact ⟨⟨sz, b, e1, rfl⟩, e2, e3, e4, e5, e6, hk⟩
    · exact absurd rfl hn
  · rintro ⟨⟨sz', b, e1, rfl⟩, e2, e3, e4, e5, e6, hk⟩
    exact ⟨_, ⟨b, _, _, _, e1, e2, rfl, ⟨e3, rfl⟩, ⟨e4, rfl⟩, e5, e6, .inl ⟨trivial, rfl⟩⟩, hk⟩
theorem ex_slice_sl3 {lo : Option AV} {k : IntKind} {n : Int} {tag : Option Nat} {sz : Nat} {xs : List CV} : ex (sliceR P t lo (some (.v (.int k n))) (some (.v (.int k n))) (.sl tag sz xs)) K = exSl (slEl P t) lo (some (.v (.int k n))) sz xs (fun l => K (rv (.cl sz l))) := by
  apply propext
  simp only [ex, sliceR, boundR_iff, exSl, Option.map_eq_some_iff, Prod.exists]
  constructor
  · rintro ⟨r, ⟨b, n', l, h, e1, e2, rfl, ⟨e3, rfl⟩, ⟨e4, rfl⟩, e5, e6, e7⟩, hk⟩
    rcases e7 with ⟨hn, _⟩ | ⟨m, _, _, _, _, rfl⟩
    · cases hn
    · exact ⟨⟨sz, b, e1, rfl⟩, e2, e3, e4, e5, e6, hk⟩
  · rintro ⟨⟨sz', b, e1, rfl⟩, e2, e3, e4, e5, e6, hk⟩
    exact ⟨_, ⟨b, _, _, _, e1, e2, rfl, ⟨e3, rfl⟩, ⟨e4, rfl⟩, e5, e6, .inr ⟨_, by simp, ⟨e4, rfl⟩, by simp, rfl, rfl⟩⟩, hk⟩
theorem ex_slice_bp {lo hi : Option AV} {k off n : Nat} (h : arEl P t = some (n, 1)) : ex (sliceR P t lo hi none (.bp k off)) K = (bndOK lo ∧ bndOK hi ∧ bnd 0 lo ≤ bnd n hi ∧ bnd n hi ≤ n ∧ bnd 0 lo < n ∧ K (rv (.bs k (off + bnd 0 lo) (bnd n hi - bnd 0 lo)))) := by
  apply propext
  simp only [ex, sliceR, boundR_iff, h, Option.some.injEq, Prod.mk.injEq, and_true, exists_and_left]
  constructor
  · rintro ⟨r, ⟨_, _, rfl, l, ⟨e1, rfl⟩, h', ⟨e2, rfl⟩, e3, e4, e5, rfl⟩, hk⟩; exact ⟨e1, e2, e3, e4, e5, hk⟩
  · rintro ⟨e1, e2, e3, e4, e5, hk⟩; exact ⟨_, ⟨trivial, _, rfl, _, ⟨e1, rfl⟩, _, ⟨e2, rfl⟩, e3, e4, e5, rfl⟩, hk⟩
theorem ex_slice_ep {lo hi : Option AV} {n : Nat} {xs : List CV} (h : arEl P t = some (n, 1)) : ex (sliceR P t lo hi none (.ep xs)) K = (bndOK lo ∧ bndOK hi ∧ bnd 0 lo ≤ bnd n hi ∧ bnd n hi ≤ n ∧ n ≤ xs.length ∧ K (rv (.sl none 1 ((xs.take (bnd n hi)).drop (bnd 0 lo))))) := by
  apply propext
  simp only [ex, sliceR, boundR_iff, h, Option.some.injEq, Prod.mk.injEq, and_true, exists_and_left]
  constructor
  · rintro ⟨r, ⟨_, _, rfl, l, ⟨e1, rfl⟩, h', ⟨e2, rfl⟩, e3, e4, e5, rfl⟩, hk⟩; exact ⟨e1, e2, e3, e4, e5, hk⟩
  · rintro ⟨e1, e2, e3, e4, e5, hk⟩; exact ⟨_, ⟨trivial, _, rfl, _, ⟨e1, rfl⟩, _, ⟨e2, rfl⟩, e3, e4, e5, rfl⟩, hk⟩

theorem ex_field_bp {f k off : Nat} : ex (fieldAddrR (some f) (.bp k off)) K = K (rv (.bp k (off + f))) := by simp [ex, fieldAddrR]
theorem ex_field_ep {f : Nat} {xs : List CV} : ex (fieldAddrR (some f) (.ep xs)) K = K (rv (.ep (xs.drop f))) := by simp [ex, fieldAddrR]
theorem ex_ix_sl {k : IntKind} {i : Int} {tag : Option Nat} {sz b : Nat} {xs : List CV} (h : slEl P t = some (sz, b)) : ex (indexAddrR P t (.v (.int k i)) (.sl tag sz xs)) K = (0 ≤ i ∧ i.toNat * sz < xs.length ∧ K (rv (.ep (xs.drop (i.toNat * sz))))) := by
  simp [ex, indexAddrR, h]
  constructor
  · rintro ⟨r, ⟨a, b, rfl⟩, hk⟩; exact ⟨a, b, hk⟩
  · rintro ⟨a, b, hk⟩; exact ⟨_, ⟨a, b, rfl⟩, hk⟩
theorem ex_ix_bs {k : IntKind} {i : Int} {q off len b : Nat} (h : slEl P t = some (1, b)) : ex (indexAddrR P t (.v (.int k i)) (.bs q off len)) K = (0 ≤ i ∧ i < len ∧ K (rv (.bp q (off + i.toNat)))) := by
  simp [ex, indexAddrR, h]
  constructor
  · rintro ⟨r, ⟨a, b, rfl⟩, hk⟩; exact ⟨a, b, hk⟩
  · rintro ⟨a, b, hk⟩; exact ⟨_, ⟨a, b, rfl⟩, hk⟩
theorem ex_ix_bp {k : IntKind} {i : Int} {q off n sz : Nat} (h : arEl P t = some (n, sz)) : ex (indexAddrR P t (.v (.int k i)) (.bp q off)) K = (0 ≤ i ∧ i < n ∧ K (rv (.bp q (off + i.toNat * sz)))) := by
  apply propext
  simp only [ex, indexAddrR, h, Option.some.injEq, Prod.mk.injEq]
  constructor
  · rintro ⟨r, ⟨_, _, ⟨rfl, rfl⟩, a, b, rfl⟩, hk⟩; exact ⟨a, b, hk⟩
  · rintro ⟨a, b, hk⟩; exact ⟨_, ⟨_, _, ⟨rfl, rfl⟩, a, b, rfl⟩, hk⟩
theorem ex_ix_ep {k : IntKind} {i : Int} {xs : List CV} {n sz : Nat} (h : arEl P t = some (n, sz)) : ex (indexAddrR P t (.v (.int k i)) (.ep xs)) K = (0 ≤ i ∧ i < n ∧ K (rv (.ep (xs.drop (i.toNat * sz))))) := by
  apply propext
  simp only [ex, indexAddrR, h, Option.some.injEq, Prod.mk.injEq]
  constructor
  · rintro ⟨r, ⟨_, _, ⟨rfl, rfl⟩, a, b, rfl⟩, hk⟩; exact ⟨a, b, hk⟩
  · rintro ⟨a, b, hk⟩; exact ⟨_, ⟨_, _, ⟨rfl, rfl⟩, a, b, rfl⟩, hk⟩
theorem ex_index_str {k : IntKind} {i : Int} {s : ByteArray} : ex (indexR P t (.v (.int k i)) (.v (.string s))) K = (isStrT P t = true ∧ 0 ≤ i ∧ i.toNat < s.size ∧ K (rv (.v (.int .u8 (s.data.toList.getD i.toNat 0).toNat)))) := by
  apply propext
  simp only [ex, indexR]
  constructor
  · rintro ⟨r, ⟨a, b, x, h, rfl⟩, hk⟩
    have hlt : i.toNat < s.size := by have := (List.getElem?_eq_some_iff.1 h).1; simpa using this
    refine ⟨a, b, hlt, ?_⟩
    rw [List.getD, h]; exact hk
  · rintro ⟨a, b, hlt, hk⟩
    have hl : i.toNat < s.data.toList.length := by simpa using hlt
    exact ⟨_, ⟨a, b, s.data.toList[i.toNat], List.getElem?_eq_getElem hl, rfl⟩, by rw [List.getD, List.getElem?_eq_getElem hl] at hk; exact hk⟩
def exIx : Option Value → (Res → Prop) → Prop
  | some z, K => K (rv (.v z))
  | none, _ => False
theorem ex_index_agg {k k' : IntKind} {i : Int} {cs : Array Value} {n : Nat} (h : arInt P t = some (n, k')) : ex (indexR P t (.v (.int k i)) (.v (.agg cs))) K = (0 ≤ i ∧ i < n ∧ exIx (cs.toList[i.toNat]?) K) := by
  apply propext
  simp only [ex, indexR, h, Option.some.injEq, Prod.mk.injEq]
  cases hc : cs.toList[i.toNat]? with
  | none => simp [exIx]
  | some u =>
    simp only [exIx, Option.some.injEq]
    constructor
    · rintro ⟨r, ⟨_, _, ⟨rfl, rfl⟩, a, b, _, rfl, rfl⟩, hk⟩; exact ⟨a, b, hk⟩
    · rintro ⟨a, b, hk⟩; exact ⟨_, ⟨_, _, ⟨rfl, rfl⟩, a, b, _, rfl, rfl⟩, hk⟩
theorem ex_extract0 {x : AV} {b c : Value} : ex (extractR 0 (.tup x b c)) K = K (rv x) := by simp [ex, extractR]
theorem ex_extract1 {x : AV} {b c : Value} : ex (extractR 1 (.tup x b c)) K = K (rv (.v b)) := by simp [ex, extractR]
theorem ex_extract2 {x : AV} {b c : Value} : ex (extractR 2 (.tup x b c)) K = K (rv (.v c)) := by simp [ex, extractR]

/-- A call: to be met by a contract. -/
def exSpec (P : Program) (G : Nat → List Value) (f : FuncId) (d : Nat) : Option (List AV) → (Res → Prop) → Prop
  | some as, K => ∃ R, Spec P G f as R ∧ K (resOf d R)
  | none, _ => False
theorem ex_call {f : FuncId} {n : Nat} {args : List AV} (hb : hasBody P f = true) : ex (callR P G σ (some n) args (.v (.func (.func f) #[] #[]))) K = exSpec P G f n (argsOf σ args) K := by
  apply propext
  cases h : argsOf σ args with
  | none => simp [ex, callR, exSpec, h]
  | some as =>
    simp only [ex, callR, exSpec, h, Option.some.injEq, hb]
    constructor
    · rintro ⟨r, ⟨_, _, _, d, as', R, rfl, rfl, hS, rfl⟩, hk⟩; exact ⟨R, hS, hk⟩
    · rintro ⟨R, hS, hk⟩; exact ⟨_, ⟨trivial, trivial, trivial, n, as, R, rfl, rfl, hS, rfl⟩, hk⟩
theorem ex_call_fn {f k n : Nat} {args : List AV} (hb : hasBody P f = true) : ex (callR P G σ (some n) args (.fn f k)) K = exSpec P G f n (argsOf σ (args ++ [.bp k 0])) K := by
  apply propext
  cases h : argsOf σ (args ++ [.bp k 0]) with
  | none => simp [ex, callR, exSpec, h]
  | some as =>
    simp only [ex, callR, exSpec, h, Option.some.injEq, hb]
    constructor
    · rintro ⟨r, ⟨_, d, as', R, rfl, rfl, hS, rfl⟩, hk⟩; exact ⟨R, hS, hk⟩
    · rintro ⟨R, hS, hk⟩; exact ⟨_, ⟨trivial, n, as, R, rfl, rfl, hS, rfl⟩, hk⟩
theorem call_by {f : FuncId} {d : Nat} {as : List AV} {R : AV} (hS : Spec P G f as R) (hk : K (resOf d R)) : exSpec P G f d (some as) K := ⟨R, hS, hk⟩

def exApp (_n _sz b : Nat) (xs : List CV) : Option (List CV) → (List CV → Prop) → Prop
  | some ys, K => ys.all CV.one = true ∧ (xs.length + ys.length) * b ≤ 140737488355328 ∧ xs.length + ys.length ≤ 140737488355328 ∧ K ys
  | none, _ => False
theorem ex_append_own {n t' sz b : Nat} {xs : List CV} {y : AV} : ex (appendR H σ (some n) (some (sz, b)) y (.sl (some t') sz xs)) K = (0 < sz ∧ σ.o t' = some xs.length ∧ exApp n sz b xs (srcOf sz y) (fun ys => K ⟨.sl (some n) sz (xs ++ ys), none, [(t', none), (n, some (xs ++ ys).length)], true⟩)) := by
  apply propext
  cases h : srcOf sz y with
  | none => simp [ex, appendR, exApp, h]
  | some ys =>
    simp only [ex, appendR, exApp, h, Option.some.injEq, Prod.mk.injEq, true_and]
    constructor
    · rintro ⟨r, ⟨_, _, _, rfl, rfl, a, rfl, c, e, f, g, rfl⟩, hk⟩; exact ⟨a, e, c, f, g, hk⟩
    · rintro ⟨a, e, c, f, g, hk⟩; exact ⟨_, ⟨_, _, _, rfl, rfl, a, rfl, c, e, f, g, rfl⟩, hk⟩
theorem ex_append_nil {n sz b : Nat} {y : AV} : ex (appendR H σ (some n) (some (sz, b)) y (.v (.slice none 0 0))) K = (0 < sz ∧ exApp n sz b [] (srcOf sz y) (fun ys => K ⟨.sl (some n) sz ys, none, [(n, some ys.length)], true⟩)) := by
  apply propext
  cases h : srcOf sz y with
  | none => simp [ex, appendR, exApp, h]
  | some ys =>
    simp only [ex, appendR, exApp, Option.some.injEq, Prod.mk.injEq, List.length_nil, Nat.zero_add]
    constructor
    · rintro ⟨r, ⟨_, sz', _, ys', rfl, ⟨rfl, rfl⟩, a, hs, c, f, g, rfl⟩, hk⟩
      rw [h] at hs
      simp only [Option.some.injEq] at hs
      subst hs
      exact ⟨a, c, f, g, hk⟩
    · rintro ⟨a, c, f, g, hk⟩; exact ⟨_, ⟨_, _, _, _, rfl, ⟨rfl, rfl⟩, a, h, c, f, g, rfl⟩, hk⟩
theorem ex_append_emp {n sz b : Nat} {y : AV} (hH : H n = false) : ex (appendR H σ (some n) (some (sz, b)) y (.emp sz)) K = (0 < sz ∧ exApp n sz b [] (srcOf sz y) (fun ys => K ⟨.sl (some n) sz ys, none, [(n, some ys.length)], true⟩)) := by
  apply propext
  cases h : srcOf sz y with
  | none => simp [ex, appendR, exApp, h]
  | some ys =>
    simp only [ex, appendR, exApp, h, Option.some.injEq, Prod.mk.injEq, List.length_nil, Nat.zero_add, true_and]
    constructor
    · rintro ⟨r, ⟨_, _, _, rfl, rfl, a, rfl, c, f, g, hr⟩, hk⟩
      rw [hH] at hr
      simp only [Bool.false_eq_true, if_false] at hr
      subst hr
      exact ⟨a, c, f, g, hk⟩
    · rintro ⟨a, c, f, g, hk⟩; exact ⟨_, ⟨_, _, _, rfl, rfl, a, rfl, c, f, g, by rw [hH]; simp⟩, hk⟩
theorem ex_append_emp_mut {n b : Nat} {y : AV} (hH : H n = true) : ex (appendR H σ (some n) (some (1, b)) y (.emp 1)) K = exApp n 1 b [] (srcOf 1 y) (fun ys => ys ≠ [] ∧ K ⟨.bs n 0 ys.length, some (n, ys), [], true⟩) := by
  apply propext
  cases h : srcOf 1 y with
  | none => simp [ex, appendR, exApp, h]
  | some ys =>
    simp only [ex, appendR, exApp, h, Option.some.injEq, Prod.mk.injEq, List.length_nil, Nat.zero_add, true_and]
    constructor
    · rintro ⟨r, ⟨_, _, _, rfl, rfl, a, rfl, c, f, g, hr⟩, hk⟩
      rw [hH] at hr
      simp only [if_true] at hr
      obtain ⟨h1, rfl⟩ := hr
      exact ⟨c, f, g, h1, hk⟩
    · rintro ⟨c, f, g, h1, hk⟩; exact ⟨_, ⟨_, _, _, rfl, rfl, Nat.zero_lt_one, rfl, c, f, g, by rw [hH]; exact ⟨h1, rfl⟩⟩, hk⟩
theorem ex_append_cl {n sz b : Nat} {xs : List CV} {y : AV} : ex (appendR H σ (some n) (some (sz, b)) y (.cl sz xs)) K = (0 < sz ∧ exApp n sz b xs (srcOf sz y) (fun ys => K (rv (.sl none sz (xs ++ ys))))) := by
  apply propext
  cases h : srcOf sz y with
  | none => simp [ex, appendR, exApp, h]
  | some ys =>
    simp only [ex, appendR, exApp, h, Option.some.injEq, Prod.mk.injEq, true_and]
    constructor
    · rintro ⟨r, ⟨_, _, rfl, a, rfl, c, f, g, rfl⟩, hk⟩; exact ⟨a, c, f, g, hk⟩
    · rintro ⟨a, c, f, g, hk⟩; exact ⟨_, ⟨_, _, rfl, a, rfl, c, f, g, rfl⟩, hk⟩

theorem ex_len_str {s : ByteArray} : ex (lenR P t (.v (.string s))) K = (isStrT P t = true ∧ K (rv (.v (.int .i64 s.size)))) := by
  apply propext
  simp only [ex, lenR]
  constructor
  · rintro ⟨r, ⟨a, rfl⟩, hk⟩; exact ⟨a, hk⟩
  · rintro ⟨a, hk⟩; exact ⟨_, ⟨a, rfl⟩, hk⟩
theorem ex_len_sl {tag : Option Nat} {sz b : Nat} {xs : List CV} (h : slEl P t = some (sz, b)) : ex (lenR P t (.sl tag sz xs)) K = (0 < sz ∧ K (rv (.v (.int .i64 (xs.length / sz : Nat))))) := by
  apply propext
  simp only [ex, lenR, h, Option.map_some, true_and]
  constructor
  · rintro ⟨r, ⟨a, rfl⟩, hk⟩; exact ⟨a, hk⟩
  · rintro ⟨a, hk⟩; exact ⟨_, ⟨a, rfl⟩, hk⟩
theorem ex_len_cl {sz b : Nat} {xs : List CV} (h : slEl P t = some (sz, b)) : ex (lenR P t (.cl sz xs)) K = (0 < sz ∧ K (rv (.v (.int .i64 (xs.length / sz : Nat))))) := by
  apply propext
  simp only [ex, lenR, h, Option.map_some, true_and]
  constructor
  · rintro ⟨r, ⟨a, rfl⟩, hk⟩; exact ⟨a, hk⟩
  · rintro ⟨a, hk⟩; exact ⟨_, ⟨a, rfl⟩, hk⟩
theorem ex_len_bs {k off len : Nat} : ex (lenR P t (.bs k off len)) K = (isSlT P t = true ∧ K (rv (.v (.int .i64 len)))) := by
  apply propext
  simp only [ex, lenR]
  constructor
  · rintro ⟨r, ⟨a, rfl⟩, hk⟩; exact ⟨a, hk⟩
  · rintro ⟨a, hk⟩; exact ⟨_, ⟨a, rfl⟩, hk⟩
theorem ex_len_emp {sz : Nat} : ex (lenR P t (.emp sz)) K = (isSlT P t = true ∧ K (rv (.v (.int .i64 0)))) := by
  apply propext
  simp only [ex, lenR]
  constructor
  · rintro ⟨r, ⟨a, rfl⟩, hk⟩; exact ⟨a, hk⟩
  · rintro ⟨a, hk⟩; exact ⟨_, ⟨a, rfl⟩, hk⟩
theorem ex_len_nil : ex (lenR P t (.v (.slice none 0 0))) K = (isSlT P t = true ∧ K (rv (.v (.int .i64 0)))) := by
  apply propext
  simp only [ex, lenR]
  constructor
  · rintro ⟨r, ⟨a, rfl⟩, hk⟩; exact ⟨a, hk⟩
  · rintro ⟨a, hk⟩; exact ⟨_, ⟨a, rfl⟩, hk⟩
def exCopy (k off len : Nat) (s : ByteArray) : Option (List CV) → (Res → Prop) → Prop
  | some cs, K => off + len ≤ cs.length ∧ K ⟨.v (.int .i64 (min s.size len : Nat)), some (k, putL cs off (bytesC (s.data.toList.take len))), [], false⟩
  | none, _ => False
theorem ex_copy {k off len b : Nat} {s : ByteArray} : ex (copyR σ (some (1, b)) (.bs k off len) (.v (.string s))) K = exCopy k off len s (σ.b k) K := by
  apply propext
  cases h : σ.b k with
  | none => simp [ex, copyR, exCopy, h]
  | some cs =>
    simp only [ex, copyR, exCopy, h, Option.some.injEq, Prod.mk.injEq, true_and]
    constructor
    · rintro ⟨r, ⟨_, _, rfl, rfl, c, rfl⟩, hk⟩; exact ⟨c, hk⟩
    · rintro ⟨c, hk⟩; exact ⟨_, ⟨_, _, rfl, rfl, c, rfl⟩, hk⟩
theorem ex_min {k : IntKind} {x y : Int} : ex (mm2 false [.v (.int k x), .v (.int k y)]) K = K (rv (.v (.int k (if y < x then y else x)))) := by simp [ex, mm2]
theorem ex_max {k : IntKind} {x y : Int} : ex (mm2 true [.v (.int k x), .v (.int k y)]) K = K (rv (.v (.int k (if y > x then y else x)))) := by simp [ex, mm2]

def exFill : Option (List CV) → (Res → Prop) → Prop
  | some cs, K => exFilled (plain cs) K
  | none, _ => False
where exFilled : Option (List Value) → (Res → Prop) → Prop
  | some ys, K => K (rv (.v (.agg ys.toArray)))
  | none, _ => False
theorem exFill_some {cs : List CV} : exFill (some cs) K = exFill.exFilled (plain cs) K := rfl
theorem exFilled_some {ys : List Value} : exFill.exFilled (some ys) K = K (rv (.v (.agg ys.toArray))) := rfl
def exParts (pl : Nat → Option (Nat × Nat)) (z : List Value) : Option (List (Nat × List CV)) → (Res → Prop) → Prop
  | some ps, K => exFill (fillC pl (z.map .v) ps) K
  | none, _ => False
theorem ex_build {parts : List (Nat × AV)} {z : List Value} (h1 : zCells P t = some z) (h3 : bdOK P t = true) :
    ex (buildR P t parts) K = exParts (placeOf P t) z (partsV parts) K := by
  apply propext
  simp only [ex, buildR, h1, h3, Option.some.injEq]
  cases h2 : partsV parts with
  | none =>
    simp only [exParts, iff_false]
    rintro ⟨r, ⟨_, _, cs, ys, rfl, h, _⟩, _⟩
    cases h
  | some ps =>
  simp only [exParts, Option.some.injEq]
  cases hf : fillC (placeOf P t) (z.map .v) ps with
  | none =>
    simp only [exFill, iff_false]
    rintro ⟨r, ⟨_, _, cs, ys, rfl, rfl, h, _⟩, _⟩
    rw [hf] at h; cases h
  | some cs =>
    simp only [exFill]
    cases hp : plain cs with
    | none =>
      simp only [exFill.exFilled, iff_false]
      rintro ⟨r, ⟨_, _, cs', ys, rfl, rfl, h, h', _⟩, _⟩
      rw [hf] at h
      simp only [Option.some.injEq] at h
      subst h
      rw [hp] at h'; cases h'
    | some ys =>
      simp only [exFill.exFilled]
      constructor
      · rintro ⟨r, ⟨_, _, cs', ys', rfl, rfl, h, h', _, rfl⟩, hk⟩
        rw [hf] at h
        simp only [Option.some.injEq] at h
        subst h
        rw [hp] at h'
        simp only [Option.some.injEq] at h'
        subst h'
        exact hk
      · exact fun hk => ⟨_, ⟨_, _, cs, ys, rfl, rfl, hf, hp, trivial, rfl⟩, hk⟩
def exRow (n sz : Nat) : Option (List CV) → (Res → Prop) → Prop
  | some cs, K => K ⟨.sl (some n) sz cs, none, [(n, some cs.length)], true⟩
  | none, _ => False
theorem exRow_some {n sz : Nat} {cs : List CV} : exRow n sz (some cs) K = K ⟨.sl (some n) sz cs, none, [(n, some cs.length)], true⟩ := rfl
def exRows (n sz : Nat) (zs : List CV) : Option (List (Nat × List CV)) → (Res → Prop) → Prop
  | some ps, K => exRow n sz (fillC (fun i => some (i * sz, sz)) zs ps) K
  | none, _ => False
theorem ex_bslice0 {sz b : Nat} (h : slEl P t = some (sz, b)) : ex (buildSliceR P t d 0 []) K = K (rv (.emp sz)) := by
  apply propext
  simp only [ex, buildSliceR, h, Option.some.injEq, Prod.mk.injEq]
  constructor
  · rintro ⟨r, ⟨_, _, _, ⟨rfl, rfl⟩, rfl⟩, hk⟩; exact hk
  · exact fun hk => ⟨_, ⟨_, _, trivial, ⟨rfl, rfl⟩, rfl⟩, hk⟩
theorem ex_bslice {n m sz b : Nat} {parts : List (Nat × AV)} {z : List Value} (h1 : slEl P t = some (sz, b)) (h2 : slZero P t = some z) :
    ex (buildSliceR P t (some n) (m + 1) parts) K = ((0 < sz ∧ (m + 1) * sz ≤ 16777216) ∧ exRows n sz ((repeatL z (m + 1)).map .v) (partsV parts) K) := by
  apply propext
  simp only [ex, buildSliceR, h1, h2, Option.some.injEq, Prod.mk.injEq]
  cases h3 : partsV parts with
  | none =>
    simp only [exRows, and_false, iff_false]
    rintro ⟨r, ⟨_, _, _, _, _, cs, rfl, ⟨rfl, rfl⟩, _, _, rfl, h, _⟩, _⟩
    cases h
  | some ps =>
  simp only [exRows, Option.some.injEq]
  constructor
  · rintro ⟨r, ⟨_, _, _, _, _, cs, rfl, ⟨rfl, rfl⟩, a, b, rfl, rfl, h, rfl⟩, hk⟩
    rw [h]; exact ⟨⟨a, b⟩, hk⟩
  · rintro ⟨h4, hk⟩
    cases hf : fillC (fun i => some (i * sz, sz)) ((repeatL z (m + 1)).map .v) ps with
    | none => rw [hf] at hk; exact hk.elim
    | some cs =>
      rw [hf] at hk
      exact ⟨_, ⟨_, _, _, _, _, cs, rfl, ⟨rfl, rfl⟩, h4.1, h4.2, rfl, rfl, hf, rfl⟩, hk⟩

theorem exHead_some {x : CV} : exHead (some x) K = K (rv (ofCV x)) := rfl
theorem exPlain_some {n : Nat} {ys : List Value} : exPlain n (some ys) K = (ys.length = n ∧ K (rv (.v (.agg ys.toArray)))) := rfl
theorem exBoxed_some {k : Option (Option Nat)} {off : Nat} {cs : List CV} : exBoxed k off (some cs) K = ex (loadC k (cs.drop off)) K := rfl
theorem exPut_some {k off n : Nat} {cs new : List CV} : exPut k off (some cs) (some new) (some n) K = (new.length = n ∧ new.all CV.one = true ∧ off + n ≤ cs.length ∧ K ⟨.bot, some (k, putL cs off new), [], false⟩) := rfl
theorem exO_some {z : Value} : exO (some z) K = K (rv (.v z)) := rfl
theorem exStr_some {l : List UInt8} : exStr (some l) K = K (rv (.v (.string ⟨l.toArray⟩))) := rfl
theorem exIx_some {z : Value} : exIx (some z) K = K (rv (.v z)) := rfl
theorem exApp_some {n sz b : Nat} {xs ys : List CV} {K2 : List CV → Prop} : exApp n sz b xs (some ys) K2 = (ys.all CV.one = true ∧ (xs.length + ys.length) * b ≤ 140737488355328 ∧ xs.length + ys.length ≤ 140737488355328 ∧ K2 ys) := rfl
theorem exCopy_some {k off len : Nat} {s : ByteArray} {cs : List CV} : exCopy k off len s (some cs) K = (off + len ≤ cs.length ∧ K ⟨.v (.int .i64 (min s.size len : Nat)), some (k, putL cs off (bytesC (s.data.toList.take len))), [], false⟩) := rfl
theorem exParts_some {pl : Nat → Option (Nat × Nat)} {z : List Value} {ps : List (Nat × List CV)} : exParts pl z (some ps) K = exFill (fillC pl (z.map .v) ps) K := rfl
theorem exRows_some {n sz : Nat} {zs : List CV} {ps : List (Nat × List CV)} : exRows n sz zs (some ps) K = exRow n sz (fillC (fun i => some (i * sz, sz)) zs ps) K := rfl

/-! ### guards and regions -/
theorem aops_nil {ops : List Oper} : aops P G H ops [] K' σ = K' σ := rfl
theorem aops_cons {ops rest : List Oper} {op : Op} {pos : String} {af : Array Edge} : aops P G H ops (⟨d, op, ty, pos, af, none⟩ :: rest) K' σ = ex (core P G H σ d ty op) (kst (aops P G H ops rest K') σ d) := rfl
def gateAt (ops : List Oper) (j : Nat) : Option Nat := (ops[j]?).bind (·.dst)
def agateO (σ : St) (want : Bool) (A B : St → Prop) (dst : Option Nat) : Option Nat → Prop
  | some g => agate (σ.s g) want A B dst σ
  | none => False
theorem aops_guard {ops rest : List Oper} {op : Op} {pos : String} {af : Array Edge} {j : Nat} {want : Bool} : aops P G H ops (⟨d, op, ty, pos, af, some (j, want)⟩ :: rest) K' σ =
    agateO σ want (astep P G H ⟨d, op, ty, pos, af, some (j, want)⟩ (aops P G H ops rest K')) (aops P G H ops rest K') d (gateAt ops j) := by
  simp only [aops, gate, gateAt]
  cases (ops[j]?).bind (·.dst) <;> rfl
theorem agateO_some {g : Nat} {want : Bool} {A B : St → Prop} : agateO σ want A B d (some g) = agate (σ.s g) want A B d σ := rfl
theorem agate_v {b want : Bool} {A B : St → Prop} : agate (.v (.bool b)) want A B d σ = if b = want then A σ else B (σ.blank d) := rfl
theorem astep_mk {op : Op} {pos : String} {af : Array Edge} {gd : Option (Nat × Bool)} : astep P G H ⟨d, op, ty, pos, af, gd⟩ K' σ = ex (core P G H σ d ty op) (kst K' σ d) := rfl
theorem blank_some {n : Nat} : σ.blank (some n) = ⟨upd σ.s n (.v (.tuple #[])), σ.b, σ.o⟩ := rfl
theorem agate_undef {want : Bool} {A B : St → Prop} : agate (.v (.tuple #[])) want A B d σ = B (σ.blank d) := rfl
theorem blank_none : σ.blank none = σ := rfl
variable {F1 : Nat → List Nat × List Nat}
theorem dLex_nil {ops : List Oper} {k : Nat} : dLex P G H F1 ops K' [] k σ = K' σ := rfl
theorem dLex_cons {ops rest : List Oper} {op : Op} {pos : String} {af : Array Edge} {k : Nat} : dLex P G H F1 ops K' (⟨d, op, ty, pos, af, none⟩ :: rest) k σ = ex (core P G H σ d ty (noAssign op)) (kfoot (dLex P G H F1 ops K' rest (k + 1)) G (F1 k) σ ⟨d, op, ty, pos, af, none⟩) := rfl
theorem dLex_guard {ops rest : List Oper} {op : Op} {pos : String} {af : Array Edge} {j k : Nat} {want : Bool} : dLex P G H F1 ops K' (⟨d, op, ty, pos, af, some (j, want)⟩ :: rest) k σ =
    agateO σ want (dstep P G H (F1 k) ⟨d, op, ty, pos, af, some (j, want)⟩ (dLex P G H F1 ops K' rest (k + 1))) (dLex P G H F1 ops K' rest (k + 1)) d (gateAt ops j) := by
  simp only [dLex, gate, gateAt]
  cases (ops[j]?).bind (·.dst) <;> rfl
theorem dstep_mk {F2 : List Nat × List Nat} {op : Op} {pos : String} {af : Array Edge} {gd : Option (Nat × Bool)} : dstep P G H F2 ⟨d, op, ty, pos, af, gd⟩ K' σ = ex (core P G H σ d ty (noAssign op)) (kfoot K' G F2 σ ⟨d, op, ty, pos, af, gd⟩) := rfl
theorem kfoot_mk {F2 : List Nat × List Nat} {o : Oper} {x : AV} {bu : Option (Nat × List CV)} {ou : List (Nat × Option Nat)} {st : Bool} :
    kfoot K' G F2 σ o ⟨x, bu, ou, st⟩ = (((opRefs G σ o).all (F2.1.contains ·) = true ∧ (resKeys ⟨x, bu, ou, st⟩).all (F2.2.contains ·) = true) ∧ K' (σ.app o.dst ⟨x, bu, ou, st⟩)) := rfl
theorem adraw_eq {F : Nat → Nat → List Nat × List Nat} {id : Nat} {ops : List Oper} : adraw P G H F id ops K' σ = (lexA ops (F id) = true ∧ dLex P G H (F id) ops K' ops 0 (killAll (siteDsts ops) σ)) := rfl
theorem awp_region {D : Nat → List Oper → (St → Prop) → St → Prop} {Q : Exit → St → Prop} {id : Nat} {l : List Oper} : awp P G H D (.region id l.toArray false) Q σ = aops P G H l l (Q .normal) σ := rfl
theorem awp_draw {D : Nat → List Oper → (St → Prop) → St → Prop} {Q : Exit → St → Prop} {id : Nat} {l : List Oper} : awp P G H D (.region id l.toArray true) Q σ = D id l (Q .normal) σ := rfl
section
variable {D : Nat → List Oper → (St → Prop) → St → Prop} {Q : Exit → St → Prop}
theorem awp_skip : awp P G H D .skip Q σ = Q .normal σ := rfl
theorem awp_label {n : Nat} : awp P G H D (.label n) Q σ = Q .normal σ := rfl
theorem awp_seq {x y : Code} : awp P G H D (.seq x y) Q σ = awp P G H D x (thenQ (awp P G H D y Q) Q) σ := rfl
theorem awp_cond {c : Operand} {x y : Code} : awp P G H D (.cond c x y) Q σ = acond (ev G σ c) (awp P G H D x Q) (awp P G H D y Q) σ := rfl
theorem awp_block {id : Nat} {c : Code} : awp P G H D (.block id c) Q σ = awp P G H D c (blockQ id Q) σ := rfl
theorem awp_scope {c : Code} : awp P G H D (.scope c) Q σ = awp P G H D c (scopeQ Q) σ := rfl
theorem scopeQ_normal : scopeQ Q .normal σ = Q .normal σ := rfl
theorem scopeQ_exit {m : Nat} : scopeQ Q (.exit m) σ = Q (.exit m) σ := rfl
theorem scopeQ_ret : scopeQ Q .ret σ = Q .ret σ := rfl
theorem awp_loop {c : Code} : awp P G H D (.loop c) Q σ = aloop (awp P G H D c) Q σ := rfl
theorem awp_exit {id : Nat} : awp P G H D (.exit id) Q σ = Q (.exit id) σ := rfl
theorem awp_ret : awp P G H D .ret Q σ = Q .ret σ := rfl
variable {K2 : St → Prop}
theorem thenQ_normal : thenQ K2 Q .normal σ = K2 σ := rfl
theorem thenQ_exit {n : Nat} : thenQ K2 Q (.exit n) σ = Q (.exit n) σ := rfl
theorem thenQ_ret : thenQ K2 Q .ret σ = Q .ret σ := rfl
theorem blockQ_normal {n : Nat} : blockQ n Q .normal σ = Q .normal σ := rfl
theorem blockQ_exit {n m : Nat} : blockQ n Q (.exit m) σ = if m = n then Q .normal σ else Q (.exit m) σ := rfl
theorem blockQ_ret {n : Nat} : blockQ n Q .ret σ = Q .ret σ := rfl
theorem retQ_normal {rs : List ResultVar} {R : AV} : retQ P rs R .normal σ = ares P rs σ R := rfl
theorem retQ_ret {rs : List ResultVar} {R : AV} : retQ P rs R .ret σ = ares P rs σ R := rfl
end

/-! ### conditions and loops -/
theorem cond_by {b : Bool} {A B : St → Prop} (ht : b = true → A σ) (hf : b = false → B σ) : acond (.v (.bool b)) A B σ := ⟨ht, hf⟩
theorem cond_dec {p : Prop} [Decidable p] {A B : St → Prop} (ht : p → A σ) (hf : ¬ p → B σ) : acond (.v (.bool (decide p))) A B σ := ⟨fun h => ht (of_decide_eq_true h), fun h => hf (of_decide_eq_false h)⟩
theorem cond_true {A B : St → Prop} : acond (.v (.bool true)) A B σ = A σ := by simp [acond]
theorem cond_false {A B : St → Prop} : acond (.v (.bool false)) A B σ = B σ := by simp [acond]
theorem loop_by {W : (Exit → St → Prop) → St → Prop} {Q : Exit → St → Prop} {X : Type} (T : X → St) (I : X → Prop) (μ : X → Nat) (x0 : X) (h0 : I x0) (hle : StLe σ (T x0))
    (round : ∀ x, I x → W (thenQ (fun σ' => ∃ x', I x' ∧ μ x' < μ x ∧ StLe σ' (T x')) Q) (T x)) : aloop W Q σ := ⟨X, T, I, μ, ⟨x0, h0, hle⟩, round⟩

end Abs
end Go.Proofs.YtkdpmjgigknbpaaDoor
