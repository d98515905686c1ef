/-
  Abstract states for walks: a slot of a frame is described by what it reads as (a slice by its content), a variable in memory by its site. No program is named here.
-/
import Derived.WalkKit
import Derived.Deep.AppendSrc
namespace Go.Proofs.YtkdpmjgigknbpaaDoor
namespace Abs
open Go.RowKit

/-- What a cell of memory reads as: a value; or a slice of plain cells. -/
inductive CV where
  | v (x : Value)
  | sl (sz : Nat) (xs : List Value)

/-- What a slot reads as. -/
inductive AV where
  | bot
  | v (x : Value)
  | sl (tag : Option Nat) (sz : Nat) (xs : List CV)
  | cl (sz : Nat) (xs : List CV)
  | emp (sz : Nat)
  | tup (a : AV) (b c : Value)
  | bp (k off : Nat)
  | bs (k off len : Nat)
  | ep (xs : List CV)
  | fn (f k : Nat)

/-- Changes one place of a table. -/
def upd {α : Type} (f : Nat → α) (i : Nat) (a : α) : Nat → α := fun j => if j = i then a else f j
theorem upd_same {α : Type} (f : Nat → α) (i : Nat) (a : α) : upd f i a i = a := by simp [upd]
theorem upd_ne {α : Type} (f : Nat → α) {i j : Nat} (a : α) (h : j ≠ i) : upd f i a j = f j := by simp [upd, h]
theorem upd_comm {α : Type} (f : Nat → α) {i j : Nat} (a b : α) (h : i ≠ j) : upd (upd f i a) j b = upd (upd f j b) i a := by
  funext x
  simp only [upd]
  by_cases h1 : x = j
  · subst h1; simp [Ne.symm h]
  · by_cases h2 : x = i
    · subst h2; simp [h]
    · simp [h1, h2]

structure St where
  s : Nat → AV
  b : Nat → Option (List CV)
  o : Nat → Option Nat

/-- Which cells a reader may lean on: those that were there before the call; and of the call's own those that are no variable, and not behind the end of a slice that may still be appended to. -/
def Safe (base : Nat) (β : Nat → Nat) (γ : Nat → Option Nat) (σ : St) (g p : Nat) : Prop :=
  g < base ∨ ((∀ k, σ.b k ≠ none → β k ≠ g) ∧ ∀ t m, σ.o t = some m → γ t = some g → p < m)

/-- A slice value that reads as these plain cells. -/
def SlRel (w : World) (S : Nat → Nat → Prop) (sz : Nat) (xs : List Value) (u : Value) : Prop :=
  ∃ a n c, u = .slice a n c ∧ n ≤ c ∧ xs.length = n * sz ∧ (a = none → n = 0 ∧ c = 0) ∧ ∀ ad, a = some ad → ∀ (j : Nat) x, xs[j]? = some x → w.cell? (ad.add j) = some x ∧ S ad.block (ad.off + j)

def CRel (w : World) (S : Nat → Nat → Prop) : CV → Value → Prop
  | .v x, u => u = x
  | .sl sz xs, u => SlRel w S sz xs u

/-- From this address on the cells read so. -/
def Reads (w : World) (S : Nat → Nat → Prop) (xs : List CV) (ad : Addr) : Prop :=
  ∀ (j : Nat) x, xs[j]? = some x → ∃ u, w.cell? (ad.add j) = some u ∧ CRel w S x u ∧ S ad.block (ad.off + j)

/-- What is known of a slice that may be appended to. -/
def OwnRow (w : World) (γ : Nat → Option Nat) (sz c t : Nat) (a : Option Addr) : Prop :=
  (c = 0 ∧ γ t = none) ∨ ∃ g cur e, a = some ⟨g, 0, none⟩ ∧ γ t = some g ∧ w.heap[g]? = some (.cells cur e (0, 0)) ∧ c * sz ≤ cur.size

def Rel (w : World) (S : Nat → Nat → Prop) (β : Nat → Nat) (γ : Nat → Option Nat) (o : Nat → Option Nat) : AV → Value → Prop
  | .bot, _ => True
  | .v x, u => u = x
  | .sl tag sz xs, u => ∃ a n c, u = .slice a n c ∧ n ≤ c ∧ xs.length = n * sz ∧ (a = none → n = 0 ∧ c = 0) ∧ (∀ ad, a = some ad → Reads w S xs ad) ∧
      ∀ t m, tag = some t → o t = some m → OwnRow w γ sz c t a
  | .cl sz xs, u => ∃ a n, u = .slice a n n ∧ xs.length = n * sz ∧ (a = none → n = 0) ∧ ∀ ad, a = some ad → Reads w S xs ad
  | .emp _, u => ∃ a, u = .slice a 0 0
  | .tup a b c, u => ∃ x, u = .tuple #[x, b, c] ∧ Rel w S β γ o a x
  | .bp k off, u => u = .pointer (some ⟨β k, off, none⟩)
  | .bs k off len, u => ∃ c, u = .slice (some ⟨β k, off, none⟩) len c ∧ len ≤ c
  | .ep xs, u => ∃ ad, u = .pointer (some ad) ∧ Reads w S xs ad
  | .fn f k, u => u = .func (.func f) #[] #[.pointer (some ⟨β k, 0, none⟩)]

/-- The block of a variable. -/
def BoxAt (w : World) (S : Nat → Nat → Prop) (g : Nat) (cs : List CV) : Prop :=
  ∃ cur e, w.heap[g]? = some (.cells cur e (0, 0)) ∧ cs.length ≤ cur.size ∧ ∀ (j : Nat) x, cs[j]? = some x → ∃ u, cur[j]? = some u ∧ CRel w S x u

structure InvAt (w0 : World) (N : Nat) (β : Nat → Nat) (γ : Nat → Option Nat) (σ : St) (a : Act) (w : World) : Prop where
  below : Below w0.heap.size w0 w
  defers : a.defers = []
  size : a.tmps.size = N
  slots : ∀ i, Rel w (Safe w0.heap.size β γ σ) β γ σ.o (σ.s i) (a.tmps.getD i undef)
  box : ∀ k cs, σ.b k = some cs → w0.heap.size ≤ β k ∧ BoxAt w (Safe w0.heap.size β γ σ) (β k) cs
  own : ∀ t m g, σ.o t = some m → γ t = some g → w0.heap.size ≤ g ∧ ∃ cur e, w.heap[g]? = some (.cells cur e (0, 0)) ∧ m ≤ cur.size
  injb : ∀ k k', σ.b k ≠ none → σ.b k' ≠ none → β k = β k' → k = k'
  injo : ∀ t t' g, σ.o t ≠ none → σ.o t' ≠ none → γ t = some g → γ t' = some g → t = t'
  bo : ∀ k t, σ.b k ≠ none → σ.o t ≠ none → γ t ≠ some (β k)

def Inv (w0 : World) (N : Nat) (σ : St) (a : Act) (w : World) : Prop := ∃ β γ, InvAt w0 N β γ σ a w

/-- Safe cells read as before. -/
def Keeps (S : Nat → Nat → Prop) (w w' : World) : Prop := ∀ ad u, w.cell? ad = some u → S ad.block ad.off → w'.cell? ad = some u

theorem add_block (ad : Addr) (j : Nat) : (ad.add j).block = ad.block := by unfold Addr.add; split <;> rfl
theorem add_off (ad : Addr) (j : Nat) : (ad.add j).off = ad.off + j := by unfold Addr.add; split <;> simp_all
theorem add_plain (g o j : Nat) : (⟨g, o, none⟩ : Addr).add j = ⟨g, o + j, none⟩ := by unfold Addr.add; split <;> simp_all

section mono
variable {w w' : World} {S S' : Nat → Nat → Prop}

theorem Keeps.refl (S : Nat → Nat → Prop) (w : World) : Keeps S w w := fun _ _ h _ => h

/-- A cell that is there lies in a block that is there. -/
theorem cell_lt {w : World} {ad : Addr} {u : Value} (h : w.cell? ad = some u) : ad.block < w.heap.size := World.block_lt_of_cell? w ad h
theorem cell_lt_add {w : World} {ad : Addr} {j : Nat} {u : Value} (h : w.cell? (ad.add j) = some u) : ad.block < w.heap.size := by
  have := cell_lt h
  rwa [add_block] at this

/-- What is safe in a block that is there stays so. -/
def Stays (w : World) (S S' : Nat → Nat → Prop) : Prop := ∀ g p, g < w.heap.size → S g p → S' g p
theorem Stays.refl (w : World) (S : Nat → Nat → Prop) : Stays w S S := fun _ _ _ h => h

theorem SlRel.mono {sz : Nat} {xs : List Value} {u : Value} (hk : Keeps S w w') (hS : Stays w S S') (h : SlRel w S sz xs u) : SlRel w' S' sz xs u := by
  obtain ⟨a, n, c, h1, h2, h3, h4, h5⟩ := h
  refine ⟨a, n, c, h1, h2, h3, h4, fun ad ha j x hx => ?_⟩
  obtain ⟨k1, k2⟩ := h5 ad ha j x hx
  exact ⟨hk _ _ k1 (by rw [add_block, add_off]; exact k2), hS _ _ (cell_lt_add k1) k2⟩

theorem CRel.mono {x : CV} {u : Value} (hk : Keeps S w w') (hS : Stays w S S') (h : CRel w S x u) : CRel w' S' x u := by
  cases x with
  | v x => exact h
  | sl sz xs => exact SlRel.mono hk hS h

theorem Reads.mono {xs : List CV} {ad : Addr} (hk : Keeps S w w') (hS : Stays w S S') (h : Reads w S xs ad) : Reads w' S' xs ad := by
  intro j x hx
  obtain ⟨u, k1, k2, k3⟩ := h j x hx
  exact ⟨u, hk _ _ k1 (by rw [add_block, add_off]; exact k3), CRel.mono hk hS k2, hS _ _ (cell_lt_add k1) k3⟩

/-- Rows that may be appended to, over a step: their blocks stand. -/
theorem OwnRow.mono {γ γ' : Nat → Option Nat} {sz c t : Nat} {a : Option Addr} (hγ : γ' t = γ t)
    (hh : ∀ g cur e, γ t = some g → w.heap[g]? = some (.cells cur e (0, 0)) → ∃ cur' e', w'.heap[g]? = some (.cells cur' e' (0, 0)) ∧ cur'.size = cur.size) (h : OwnRow w γ sz c t a) : OwnRow w' γ' sz c t a := by
  rcases h with ⟨h1, h2⟩ | ⟨g, cur, e, h1, h2, h3, h4⟩
  · exact .inl ⟨h1, hγ.trans h2⟩
  · obtain ⟨cur', e', k1, k2⟩ := hh g cur e h2 h3
    exact .inr ⟨g, cur', e', h1, hγ.trans h2, k1, by omega⟩

/-- Which places an abstract value names. -/
def refs : AV → Option Nat
  | .sl tag _ _ => tag
  | .bp k _ | .bs k _ _ | .fn _ k => some k
  | .tup a _ _ => refs a
  | _ => none

theorem Rel.mono {β β' : Nat → Nat} {γ γ' : Nat → Option Nat} {o o' : Nat → Option Nat} (hk : Keeps S w w') (hS : Stays w S S') :
    ∀ {x : AV} {u : Value}, (∀ t, refs x = some t → β' t = β t ∧ ∀ m, o' t = some m → γ' t = γ t ∧ (∃ m, o t = some m) ∧
      ∀ g cur e, γ t = some g → w.heap[g]? = some (.cells cur e (0, 0)) → ∃ cur' e', w'.heap[g]? = some (.cells cur' e' (0, 0)) ∧ cur'.size = cur.size) →
    Rel w S β γ o x u → Rel w' S' β' γ' o' x u
  | .bot, _, _, _ => trivial
  | .v _, _, _, h => h
  | .emp _, _, _, h => h
  | .sl tag sz xs, u, hr, h => by
    obtain ⟨a, n, c, h1, h2, h3, h4, h5, h6⟩ := h
    refine ⟨a, n, c, h1, h2, h3, h4, fun ad ha => (h5 ad ha).mono hk hS, fun t m ht hm => ?_⟩
    obtain ⟨_, k⟩ := hr t (by simpa [refs] using ht)
    obtain ⟨k1, ⟨m', k2⟩, k3⟩ := k m hm
    exact OwnRow.mono k1 k3 (h6 t m' ht k2)
  | .cl sz xs, u, _, h => by
    obtain ⟨a, n, h1, h3, h4, h5⟩ := h
    exact ⟨a, n, h1, h3, h4, fun ad ha => (h5 ad ha).mono hk hS⟩
  | .tup a b c, u, hr, h => by
    obtain ⟨x, h1, h2⟩ := h
    exact ⟨x, h1, Rel.mono hk hS (x := a) (by simpa [refs] using hr) h2⟩
  | .bp k off, u, hr, h => by
    have := (hr k rfl).1
    simp only [Rel] at h ⊢
    rw [this]; exact h
  | .bs k off len, u, hr, h => by
    have := (hr k rfl).1
    simp only [Rel] at h ⊢
    rw [this]; exact h
  | .ep xs, u, _, h => by
    obtain ⟨ad, h1, h2⟩ := h
    exact ⟨ad, h1, h2.mono hk hS⟩
  | .fn f k, u, hr, h => by
    have := (hr k rfl).1
    simp only [Rel] at h ⊢
    rw [this]; exact h

theorem BoxAt.mono {g : Nat} {cs : List CV} (hk : Keeps S w w') (hS : Stays w S S') (hh : w'.heap[g]? = w.heap[g]?) (h : BoxAt w S g cs) : BoxAt w' S' g cs := by
  obtain ⟨cur, e, h1, h2, h3⟩ := h
  refine ⟨cur, e, hh.trans h1, h2, fun j x hx => ?_⟩
  obtain ⟨u, k1, k2⟩ := h3 j x hx
  exact ⟨u, k1, CRel.mono hk hS k2⟩
end mono

/-- Every old block is as it was: all cells read as before. -/
theorem keeps_of_old {S : Nat → Nat → Prop} {w w' : World} (h : ∀ k, k < w.heap.size → w'.heap[k]? = w.heap[k]?) : Keeps S w w' := fun ad u hc _ => by
  rw [World.cell?_of_block (w := w) (h _ (cell_lt hc))]; exact hc

end Abs
end Go.Proofs.YtkdpmjgigknbpaaDoor
