/-
  Each operation does upon worlds what 'core' says of abstract states: loads, conversions, slice expressions, addresses.
-/
import Derived.Test.YtkdpmjgigknbpaaDoorA4
namespace Go.Proofs.YtkdpmjgigknbpaaDoor
namespace Abs
open Go.RowKit

variable {P : Program} {G : Nat → List Value} {H : Nat → Bool} {w0 w w' : World} {N : Nat} {β : Nat → Nat} {γ : Nat → Option Nat} {σ : St} {a : Act} {S : Nat → Nat → Prop} {o : Nat → Option Nat}

theorem plain_some : ∀ {cs : List CV} {ys : List Value}, plain cs = some ys → cs = ys.map .v
  | [], ys, h => by simp [plain] at h; subst h; rfl
  | .v x :: r, ys, h => by
    simp only [plain, Option.map_eq_some_iff] at h
    obtain ⟨zs, h1, rfl⟩ := h
    rw [plain_some h1]; rfl
  | .sl _ _ :: _, _, h => by simp [plain] at h

/-- Cells that read so, whoever may write them. -/
def Cells (w : World) (S : Nat → Nat → Prop) (cs : List CV) (ad : Addr) : Prop := ∀ (j : Nat) x, cs[j]? = some x → ∃ u, w.cell? (ad.add j) = some u ∧ CRel w S x u

theorem Reads.cells {cs : List CV} {ad : Addr} (h : Reads w S cs ad) : Cells w S cs ad := fun j x hx => by
  obtain ⟨u, h1, h2, _⟩ := h j x hx
  exact ⟨u, h1, h2⟩

theorem BoxAt.cells {g off : Nat} {cs : List CV} (h : BoxAt w S g cs) : Cells w S (cs.drop off) ⟨g, off, none⟩ := fun j x hx => by
  obtain ⟨cur, e, h1, _, h3⟩ := h
  rw [List.getElem?_drop] at hx
  obtain ⟨u, k1, k2⟩ := h3 _ x hx
  refine ⟨u, ?_, k2⟩
  rw [add_plain]
  simp [World.cell?, h1, k1]

theorem ofCV_rel {x : CV} {u : Value} (h : CRel w S x u) : Rel w S β γ o (ofCV x) u := by
  cases x with
  | v x => exact h
  | sl sz xs =>
    obtain ⟨a, n, c, h1, h2, h3, h4, h5⟩ := h
    refine ⟨a, n, c, h1, h2, by simpa using h3, h4, fun ad ha j x hx => ?_, fun t m ht => by cases ht⟩
    simp only [List.getElem?_map, Option.map_eq_some_iff] at hx
    obtain ⟨y, hy, rfl⟩ := hx
    obtain ⟨k1, k2⟩ := h5 ad ha j y hy
    exact ⟨y, k1, rfl, k2⟩

theorem ldKind_agg {t : TypeId} {n : Nat} (h : ldKind P t = some (some n)) : (isAgg t).run P w = .ok true w ∧ (sizeOf t).run P w = .ok n w := by
  unfold ldKind at h
  split at h
  · rename_i hu hi
    simp only [Option.some.injEq] at h; subst h
    exact ⟨by simp [isAgg, run_underlying hu], by simp [sizeOf, typeInfo, hi]⟩
  · rename_i hu hi
    simp only [Option.some.injEq] at h; subst h
    exact ⟨by simp [isAgg, run_underlying hu], by simp [sizeOf, typeInfo, hi]⟩
  · simp at h
  · cases h

theorem ldKind_one {t : TypeId} (h : ldKind P t = some none) : (isAgg t).run P w = .ok false w := by
  unfold ldKind at h
  split at h
  · simp at h
  · simp at h
  · rename_i d i hn1 hn2 hu hi
    cases d <;> simp [isAgg, run_underlying hu]
    · exact hn2 _ _ rfl
    · exact hn1 _ rfl
  · cases h

theorem run_loadC {t : TypeId} {cs : List CV} {r : Res} {ad : Addr} (hr : Cells w S cs ad) (h : loadC (ldKind P t) cs r) :
    ∃ x v, (loadVar t ad).run P w = .ok v w ∧ r = rv x ∧ Rel w S β γ o x v := by
  unfold loadC at h
  split at h
  · rename_i n hk
    obtain ⟨ys, h1, h2, rfl⟩ := h
    obtain ⟨k1, k2⟩ := ldKind_agg (w := w) hk
    have hys := plain_some h1
    have hl : (loadCells ad n).run P w = .ok ys.toArray w := by
      have := run_loadCells_list (P := P) w ad ys (fun j v hv => by
        have hj : (cs.take n)[j]? = some (.v v) := by rw [hys]; simp [hv]
        have hj2 : cs[j]? = some (.v v) := by
          rw [List.getElem?_take] at hj
          split at hj
          · exact hj
          · cases hj
        obtain ⟨u, c1, c2⟩ := hr j _ hj2
        rw [c1]; exact congrArg some c2)
      rw [h2] at this
      exact this
    exact ⟨_, _, by simp [loadVar, k1, k2, hl], rfl, rfl⟩
  · rename_i hk
    obtain ⟨x, h1, rfl⟩ := h
    have h0 : cs[0]? = some x := by rw [← List.head?_eq_getElem?]; exact h1
    obtain ⟨u, c1, c2⟩ := hr 0 x h0
    rw [show ad.add 0 = ad from rfl] at c1
    refine ⟨ofCV x, u, ?_, rfl, ofCV_rel c2⟩
    simp [loadVar, ldKind_one (w := w) hk, load, Sem.run, c1]
  · exact h.elim

/-- The form of all that follows: whatever the operation yields is related, and the world stands. -/
def Pure (P : Program) (w : World) (S : Nat → Nat → Prop) (β : Nat → Nat) (γ : Nat → Option Nat) (o : Nat → Option Nat) (s : Sem Value) (r : Res) : Prop :=
  ∃ x v, s.run P w = .ok v w ∧ r = rv x ∧ Rel w S β γ o x v

theorem pure_load {t : TypeId} {x : AV} {u : Value} {r : Res} (h : InvAt w0 N β γ σ a w) (hx : Rel w (Safe w0.heap.size β γ σ) β γ σ.o x u) (hc : loadR P t σ x r) :
    Pure P w (Safe w0.heap.size β γ σ) β γ σ.o (Instr.loadAt t u) r := by
  unfold loadR at hc
  split at hc
  · obtain ⟨ad, rfl, hr⟩ := hx
    obtain ⟨y, v, h1, h2, h3⟩ := run_loadC (β := β) (γ := γ) (o := σ.o) hr.cells hc
    exact ⟨y, v, by simp [Instr.loadAt, Instr.sureAddr, h1], h2, h3⟩
  · obtain ⟨cs, hb, hc⟩ := hc
    simp only [Rel] at hx
    subst hx
    obtain ⟨_, hbox⟩ := h.box _ _ hb
    obtain ⟨y, v, h1, h2, h3⟩ := run_loadC (β := β) (γ := γ) (o := σ.o) hbox.cells hc
    exact ⟨y, v, by simp [Instr.loadAt, Instr.sureAddr, h1], h2, h3⟩
  · exact hc.elim

theorem bytesOf_some : ∀ {cs : List CV} {l : List UInt8}, bytesOf cs = some l → ∃ ns : List Int, cs = ns.map (fun n => .v (.int .u8 n)) ∧ l = ns.map fun n => UInt8.ofNat n.toNat
  | [], l, h => by simp [bytesOf] at h; subst h; exact ⟨[], rfl, rfl⟩
  | .v (.int .u8 n) :: r, l, h => by
    simp only [bytesOf, Option.map_eq_some_iff] at h
    obtain ⟨m, h1, rfl⟩ := h
    obtain ⟨ns, e1, e2⟩ := bytesOf_some h1
    exact ⟨n :: ns, by rw [e1]; rfl, by rw [e2]; rfl⟩
  | .sl _ _ :: _, _, h => by simp [bytesOf] at h
  | .v (.int .u16 _) :: _, _, h | .v (.int .u32 _) :: _, _, h | .v (.int .u64 _) :: _, _, h | .v (.int .i8 _) :: _, _, h | .v (.int .i16 _) :: _, _, h | .v (.int .i32 _) :: _, _, h | .v (.int .i64 _) :: _, _, h
  | .v (.bool _) :: _, _, h | .v (.float _ _) :: _, _, h | .v (.complex _ _ _) :: _, _, h | .v (.string _) :: _, _, h | .v (.pointer _) :: _, _, h | .v (.slice _ _ _) :: _, _, h | .v (.map _) :: _, _, h | .v (.chan _) :: _, _, h
  | .v (.func _ _ _) :: _, _, h | .v (.nilFunc) :: _, _, h | .v (.iface _ _) :: _, _, h | .v (.nilIface) :: _, _, h | .v (.agg _) :: _, _, h | .v (.tuple _) :: _, _, h => by simp [bytesOf] at h

theorem foldl_push : ∀ (ns : List Int) (r : ByteArray), ns.foldl (fun r n => r.push (UInt8.ofNat n.toNat)) r = ⟨r.data ++ (ns.map fun n => UInt8.ofNat n.toNat).toArray⟩
  | [], r => by simp
  | n :: ns, r => by
    simp only [List.foldl_cons]
    rw [foldl_push ns]
    simp [ByteArray.push]

theorem pure_conv_int {src dst : TypeId} {k k' : IntKind} {n : Int} (hc : cvt P src dst = some (.toInt k)) : (convert src dst (.int k' n)).run P w = .ok (.int k (k.wrap n)) w := by
  unfold cvt at hc
  split at hc
  · rename_i k1 k2 h1 h2
    simp only [Option.some.injEq, Cvt.toInt.injEq] at hc; subst hc
    simp [convert, run_underlying h1, run_underlying h2, Conv.intToInt]
  · split at hc <;> cases hc
  · split at hc <;> cases hc
  · split at hc
    · split at hc <;> cases hc
    · cases hc
  · cases hc

theorem cvt_toStr {src dst : TypeId} (hc : cvt P src dst = some .toStr) : ∃ e, P.underlying src = some (.slice e) ∧ P.underlying dst = some .string ∧ P.underlying e = some (.int .u8) := by
  unfold cvt at hc
  split at hc
  · simp at hc
  · rename_i e h1 h2
    split at hc
    · rename_i h3; exact ⟨e, h1, h2, h3⟩
    · cases hc
  · split at hc <;> simp at hc
  · split at hc
    · split at hc <;> simp at hc
    · cases hc
  · cases hc
theorem cvt_same {src dst : TypeId} (hc : cvt P src dst = some .same) : src = dst ∧ ∃ e, P.underlying dst = some (.slice e) ∧ P.underlying e = some (.int .u8) := by
  unfold cvt at hc
  split at hc
  · simp at hc
  · split at hc <;> simp at hc
  · split at hc <;> simp at hc
  · rename_i e _ h1 _
    split at hc
    · rename_i h3
      split at hc
      · rename_i h4
        subst h4
        exact ⟨rfl, e, h1, h3⟩
      · cases hc
    · cases hc
  · cases hc
theorem cvt_toBytes {src dst : TypeId} (hc : cvt P src dst = some .toBytes) : ∃ e, P.underlying src = some .string ∧ P.underlying dst = some (.slice e) ∧ P.underlying e = some (.int .u8) := by
  unfold cvt at hc
  split at hc
  · simp at hc
  · split at hc <;> simp at hc
  · rename_i e h1 h2
    split at hc
    · rename_i h3; exact ⟨e, h1, h2, h3⟩
    · cases hc
  · split at hc
    · split at hc <;> simp at hc
    · cases hc
  · cases hc

/-- 'string(b)'. -/
theorem run_toStr {src dst : TypeId} {xs : List CV} {l : List UInt8} {a : Option Addr} {n c : Nat} (hc : cvt P src dst = some .toStr) (hl : bytesOf xs = some l) (hn : xs.length = n) (ha : a = none → n = 0)
    (hr : ∀ ad, a = some ad → Cells w S xs ad) : (convert src dst (.slice a n c)).run P w = .ok (.string ⟨l.toArray⟩) w := by
  obtain ⟨e, h1, h2, h3⟩ := cvt_toStr hc
  obtain ⟨ns, e1, e2⟩ := bytesOf_some hl
  rw [run_convert_bytes_string w src dst e _ n c h1 h3 h2]
  cases a with
  | none =>
    have : xs = [] := List.eq_nil_of_length_eq_zero (by rw [hn]; exact ha rfl)
    subst this
    simp [bytesOf] at hl; subst hl
    simp [Conv.bytesToString]
    rfl
  | some ad =>
    have hl2 : (loadCells ad n).run P w = .ok (ns.map (Value.int .u8)).toArray w := by
      have := run_loadCells_list (P := P) w ad (ns.map (Value.int .u8)) (fun j v hv => by
        have hj : xs[j]? = some (.v v) := by
          rw [e1]
          simp only [List.getElem?_map, Option.map_eq_some_iff] at hv ⊢
          obtain ⟨q, q1, rfl⟩ := hv
          exact ⟨q, q1, rfl⟩
        obtain ⟨u, c1, c2⟩ := hr ad rfl j _ hj
        rw [c1]; exact congrArg some c2)
      rw [show (ns.map (Value.int .u8)).length = n by rw [← hn, e1]; simp] at this
      exact this
    rw [run_bytesToString w ad n c ns hl2, foldl_push, e2]
    simp [ByteArray.empty, ByteArray.emptyWithCapacity]
    rfl

theorem arEl_some {t : TypeId} {n sz : Nat} (h : arEl P t = some (n, sz)) : ∃ e i, P.underlying t = some (.array n e) ∧ P.info? e = some i ∧ i.size = sz := by
  unfold arEl at h
  split at h
  · rename_i n' e hu
    simp only [Option.map_eq_some_iff, Prod.mk.injEq] at h
    obtain ⟨i, h1, rfl, rfl⟩ := h
    exact ⟨e, i, hu, h1, rfl⟩
  · cases h
theorem slEl_zero {t : TypeId} {sz b : Nat} (h : slEl P t = some (sz, b)) : ∃ e i z, P.underlying t = some (.slice e) ∧ P.info? e = some i ∧ i.size = sz ∧ i.bytes = b ∧ i.zero = some z ∧ z.cells.size = sz := by
  unfold slEl at h
  split at h
  · rename_i e hu
    cases hi : P.info? e with
    | none => rw [hi] at h; cases h
    | some i =>
      rw [hi] at h
      simp only [Option.bind_some] at h
      cases hz : i.zero with
      | none => rw [hz] at h; cases h
      | some z =>
        rw [hz] at h
        simp only [Option.bind_some] at h
        split at h
        · rename_i hs
          simp only [Option.some.injEq, Prod.mk.injEq] at h
          exact ⟨e, i, z, hu, hi, h.1, h.2, hz, by rw [hs, h.1]⟩
        · cases h
  · cases h
theorem slEl_some {t : TypeId} {sz b : Nat} (h : slEl P t = some (sz, b)) : ∃ e i, P.underlying t = some (.slice e) ∧ P.info? e = some i ∧ i.size = sz ∧ i.bytes = b := by
  obtain ⟨e, i, z, h1, h2, h3, h4, _⟩ := slEl_zero h
  exact ⟨e, i, h1, h2, h3, h4⟩
theorem isStr_some {t : TypeId} (h : isStrT P t = true) : P.underlying t = some .string := by unfold isStrT at h; split at h <;> simp_all
theorem isSl_some {t : TypeId} (h : isSlT P t = true) : ∃ e, P.underlying t = some (.slice e) := by unfold isSlT at h; split at h <;> simp_all

theorem Reads.drop {xs : List CV} {ad : Addr} (h : Reads w S xs ad) (k : Nat) : Reads w S (xs.drop k) (ad.add k) := fun j x hx => by
  rw [List.getElem?_drop] at hx
  obtain ⟨u, h1, h2, h3⟩ := h _ x hx
  have e : (ad.add k).add j = ad.add (k + j) := by
    unfold Addr.add
    by_cases hk : k = 0
    · subst hk; simp
    · by_cases hj : j = 0
      · subst hj; simp [hk]
      · simp [hk, hj, Nat.add_assoc]
  exact ⟨u, by rw [e]; exact h1, h2, by rw [add_block, add_off, Nat.add_assoc]; exact h3⟩
theorem Reads.take {xs : List CV} {ad : Addr} (h : Reads w S xs ad) (k : Nat) : Reads w S (xs.take k) ad := fun j x hx => by
  rw [List.getElem?_take] at hx
  split at hx
  · exact h j x hx
  · cases hx
theorem reads_nil {ad : Addr} : Reads w S [] ad := fun j x hx => by simp at hx

theorem pure_array {t : TypeId} {x : AV} {u : Value} {r : Res} (hx : Rel w S β γ o x u) (hc : arrayR (arEl P t) x r) : Pure P w S β γ o (Instr.arrayAt t u) r := by
  unfold arrayR at hc
  split at hc
  · rename_i tag sz xs
    obtain ⟨n, h1, rfl, h2, h3, rfl⟩ := hc
    obtain ⟨e, i, k1, k2, k3⟩ := arEl_some h1
    obtain ⟨a, n', c, rfl, h5, h6, h7, h8, _⟩ := hx
    rw [Nat.mul_one] at h6
    cases a with
    | none => have := (h7 rfl).1; omega
    | some ad =>
      exact ⟨_, .pointer (some ad), by simp [Instr.arrayAt, run_underlying k1, show ¬ n' < n by omega], rfl, ad, rfl, h8 ad rfl⟩
  · rename_i k off len
    obtain ⟨n, h1, h2, rfl⟩ := hc
    obtain ⟨e, i, k1, k2, k3⟩ := arEl_some h1
    obtain ⟨c, rfl, h4⟩ := hx
    exact ⟨_, .pointer (some ⟨β k, off, none⟩), by simp [Instr.arrayAt, run_underlying k1, show ¬ len < n by omega], rfl, rfl⟩
  · exact hc.elim

theorem run_sliceBound {k : IntKind} {n : Int} {y : Nat} {code : BoundsCode} (h0 : 0 ≤ n) (h : n ≤ y) : (Instr.sliceBound (.int k n) y code).run P w = .ok n.toNat w := by
  simp [Instr.sliceBound, asIntOf, h0, h]

theorem bound_of {d l : Nat} {lo : Option Operand} {Q : AV → Value → Prop} (hQ : ∀ x u, Q (.v x) u → u = x) (hev : ∀ x, Q (ev G σ x) (a.eval x)) (h : boundR d (lo.map (ev G σ)) l) :
    (lo.map a.eval = none ∧ l = d) ∨ ∃ k n, lo.map a.eval = some (.int k n) ∧ 0 ≤ n ∧ l = n.toNat := by
  cases lo with
  | none => exact .inl ⟨rfl, h⟩
  | some x =>
    simp only [Option.map_some, boundR] at h
    split at h
    · rename_i h1; cases h1
    · rename_i k n h1
      simp only [Option.some.injEq] at h1
      have := hev x
      rw [h1] at this
      exact .inr ⟨k, n, by rw [Option.map_some, hQ _ _ this], h.1, h.2⟩
    · exact h.elim

/-- Bounds of a slice expression with no third index. -/
theorem run_bounds2 {isS : Bool} {len cap l h : Nat} {lo hi : Option Value}
    (hl : (lo = none ∧ l = 0) ∨ ∃ k n, lo = some (.int k n) ∧ 0 ≤ n ∧ l = n.toNat) (hh : (hi = none ∧ h = len) ∨ ∃ k n, hi = some (.int k n) ∧ 0 ≤ n ∧ h = n.toNat)
    (hlh : l ≤ h) (hhc : h ≤ cap) : (Instr.sliceBounds isS len cap lo hi none).run P w = .ok (l, h, cap) w := by
  unfold Instr.sliceBounds
  rcases hh with ⟨rfl, rfl⟩ | ⟨k, n, rfl, hn, rfl⟩
  · rcases hl with ⟨rfl, rfl⟩ | ⟨k', n', rfl, hn', rfl⟩
    · simp
    · simp [run_sliceBound (P := P) (w := w) (k := k') hn' (show n' ≤ (h : Int) by omega)]
  · rcases hl with ⟨rfl, rfl⟩ | ⟨k', n', rfl, hn', rfl⟩
    · simp [run_sliceBound (P := P) (w := w) (k := k) hn (show n ≤ (cap : Int) by omega)]
    · simp [run_sliceBound (P := P) (w := w) (k := k) hn (show n ≤ (cap : Int) by omega), run_sliceBound (P := P) (w := w) (k := k') hn' (show n' ≤ ((n.toNat : Nat) : Int) by omega)]

theorem run_bounds3 {len cap l h : Nat} {lo : Option Value} {k1 k2 : IntKind} {n1 n2 : Int}
    (hl : (lo = none ∧ l = 0) ∨ ∃ k n, lo = some (.int k n) ∧ 0 ≤ n ∧ l = n.toNat) (h1 : 0 ≤ n1) (e1 : h = n1.toNat) (h2 : 0 ≤ n2) (e2 : h = n2.toNat)
    (hlh : l ≤ h) (hhc : h ≤ cap) : (Instr.sliceBounds true len cap lo (some (.int k1 n1)) (some (.int k2 n2))).run P w = .ok (l, h, h) w := by
  unfold Instr.sliceBounds
  have a1 : ∀ code, (Instr.sliceBound (.int k2 n2) cap code).run P w = .ok h w := fun code => by rw [run_sliceBound (P := P) (w := w) (k := k2) h2 (by omega), e2]
  have a2 : ∀ code, (Instr.sliceBound (.int k1 n1) h code).run P w = .ok h w := fun code => by rw [run_sliceBound (P := P) (w := w) (k := k1) h1 (by omega), e1]
  rcases hl with ⟨rfl, rfl⟩ | ⟨k', n', rfl, hn', rfl⟩
  · simp [a1, a2]
  · simp [a1, a2, run_sliceBound (P := P) (w := w) (k := k') hn' (show n' ≤ (h : Int) by omega)]

end Abs
end Go.Proofs.YtkdpmjgigknbpaaDoor
