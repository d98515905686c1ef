/-
  A function's contract from its body. Tables for states that are written out.
-/
import Derived.Test.YtkdpmjgigknbpaaDoorA14
namespace Go.Proofs.YtkdpmjgigknbpaaDoor
namespace Abs
open Go.RowKit
set_option linter.unusedSimpArgs false

variable {P : Program} {G : Nat → List Value} {H : Nat → Bool} {w0 w w' : World} {N : Nat} {β : Nat → Nat} {γ : Nat → Option Nat} {σ σ' : St} {a : Act}

/-! ### States written out -/

/-- A table: the first entry counts. -/
def lk {α : Type} (dflt : α) : List (Nat × α) → Nat → α
  | [], _ => dflt
  | p :: l, i => if i = p.1 then p.2 else lk dflt l i
theorem upd_lk {α : Type} (dflt : α) (l : List (Nat × α)) (i : Nat) (x : α) : upd (lk dflt l) i x = lk dflt ((i, x) :: l) := by
  funext j
  simp [upd, lk]
theorem lk_hit {α : Type} (dflt x : α) (l : List (Nat × α)) (i : Nat) : lk dflt ((i, x) :: l) i = x := by simp [lk]
theorem lk_miss {α : Type} (dflt x : α) (l : List (Nat × α)) (i j : Nat) (h : (i == j) = false) : lk dflt ((j, x) :: l) i = lk dflt l i := by
  have : i ≠ j := by simpa using h
  simp [lk, this]
theorem lk_nil {α : Type} (dflt : α) (i : Nat) : lk dflt [] i = dflt := rfl

abbrev S (l : List (Nat × AV)) : Nat → AV := lk .bot l
abbrev B (l : List (Nat × Option (List CV))) : Nat → Option (List CV) := lk none l
abbrev O (l : List (Nat × Option Nat)) : Nat → Option Nat := lk none l

def killL (d : Nat) : List (Nat × AV) → List (Nat × AV)
  | [] => []
  | p :: l => (p.1, killAV d p.2) :: killL d l
theorem kill_lk (d : Nat) : ∀ (l : List (Nat × AV)) (i : Nat), killAV d (lk .bot l i) = lk .bot (killL d l) i
  | [], _ => rfl
  | p :: l, i => by
    simp only [lk, killL]
    split
    · rfl
    · exact kill_lk d l i
theorem kill_St (d : Nat) (l : List (Nat × AV)) (b : List (Nat × Option (List CV))) (o : List (Nat × Option Nat)) : (St.mk (lk .bot l) (lk none b) (lk none o)).kill d = ⟨lk .bot (killL d l), lk none ((d, none) :: b), lk none ((d, none) :: o)⟩ := by
  unfold St.kill
  congr 1
  · funext i; exact kill_lk d l i

theorem le_lk {l l' : List (Nat × AV)} (h : ∀ p ∈ l', AVle (lk .bot l p.1) p.2) : ∀ i, AVle (lk .bot l i) (lk .bot l' i) := by
  intro i
  induction l' with
  | nil => exact .inr (.inl rfl)
  | cons p l' ih =>
    simp only [lk]
    split
    · rename_i hi; subst hi; exact h p List.mem_cons_self
    · exact ih fun q hq => h q (List.mem_cons_of_mem _ hq)

/-- Entries of a table of options that are all there in another. -/
theorem le_opt {α : Type} {l l' : List (Nat × Option α)} (h : ∀ p ∈ l', p.2 = none ∨ lk none l p.1 = p.2) : ∀ k x, lk none l' k = some x → lk none l k = some x := by
  intro k x hx
  induction l' with
  | nil => simp [lk] at hx
  | cons p l' ih =>
    simp only [lk] at hx
    split at hx
    · rename_i hi
      subst hi
      rcases h p List.mem_cons_self with h1 | h1
      · rw [h1] at hx; cases hx
      · rw [h1]; exact hx
    · exact ih (fun q hq => h q (List.mem_cons_of_mem _ hq)) hx

theorem stLe_mk {l l' : List (Nat × AV)} {b b' : List (Nat × Option (List CV))} {o o' : List (Nat × Option Nat)} (h1 : ∀ p ∈ l', AVle (lk .bot l p.1) p.2) (h2 : ∀ p ∈ b', p.2 = none ∨ lk none b p.1 = p.2) (h3 : ∀ p ∈ o', p.2 = none ∨ lk none o p.1 = p.2) :
    StLe ⟨lk .bot l, lk none b, lk none o⟩ ⟨lk .bot l', lk none b', lk none o'⟩ := .inl ⟨le_lk h1, le_opt h2, le_opt h3⟩
theorem stLe0_mk {l l' : List (Nat × AV)} {b b' : List (Nat × Option (List CV))} {o o' : List (Nat × Option Nat)} (h1 : ∀ p ∈ l', AVle (lk .bot l p.1) p.2) (h2 : ∀ p ∈ b', p.2 = none ∨ lk none b p.1 = p.2) (h3 : ∀ p ∈ o', p.2 = none ∨ lk none o p.1 = p.2) :
    StLe0 ⟨lk .bot l, lk none b, lk none o⟩ ⟨lk .bot l', lk none b', lk none o'⟩ := ⟨le_lk h1, le_opt h2, le_opt h3⟩
theorem stLe_own (d t : Nat) {sz : Nat} {xs : List CV} {σ σ' : St} (h1 : σ.s d = .sl (some t) sz xs) (h2 : t ≠ d) (h3 : StLe0 ((σ.kill d).app (some d) ⟨.sl (some d) sz xs, none, [(t, none), (d, σ.o t)], true⟩) σ') : StLe σ σ' := .inr ⟨d, t, sz, xs, h1, h2, h3⟩

/-! ### A function -/

def argOK : AV → Bool
  | .v _ | .ep _ => true
  | .sl none _ _ => true
  | _ => false
def number {α : Type} : Nat → List α → List (Nat × α)
  | _, [] => []
  | k, x :: l => (k, x) :: number (k + 1) l
def st0 (args : List AV) : St := ⟨lk .bot (number 0 args), lk none [], lk none []⟩

theorem number_lk (args : List AV) : ∀ (k i : Nat), lk .bot (number k args) i = if k ≤ i then (args[i - k]?).getD .bot else .bot := by
  induction args with
  | nil => intro k i; simp [number, lk]
  | cons x l ih =>
    intro k i
    simp only [number, lk]
    by_cases hi : i = k
    · subst hi; simp
    · rw [if_neg hi, ih]
      by_cases h : k ≤ i
      · rw [if_pos (by omega), if_pos h]
        obtain ⟨j, rfl⟩ : ∃ j, i = k + 1 + j := ⟨i - (k + 1), by omega⟩
        rw [show k + 1 + j - (k + 1) = j by omega, show k + 1 + j - k = j + 1 by omega]
        simp
      · rw [if_neg (by omega), if_neg h]

def ares1 (P : Program) : ResultVar → St → AV → Prop
  | .tmp t, σ, R => match σ.s t with
    | .v x => R = .v x ∨ (isNilSl x = true ∧ ∃ tag sz, R = .sl tag sz [])
    | .sl (some t') sz xs => (∃ m, σ.o t' = some m) ∧ (∃ ys, plain xs = some ys) ∧ ∃ tag, R = .sl tag sz xs
    | _ => False
  | .cell t T, σ, R => match σ.s t with
    | .bp k off => ∃ cs n ys, σ.b k = some cs ∧ ldKind P T = some (some n) ∧ plain ((cs.drop off).take n) = some ys ∧ ys.length = n ∧ R = .v (.agg ys.toArray)
    | _ => False
def ares (P : Program) : List ResultVar → St → AV → Prop
  | [x], σ, R => ares1 P x σ R
  | [x, .tmp t2, .tmp t3], σ, R => ∃ R1 b c, ares1 P x σ R1 ∧ σ.s t2 = .v b ∧ σ.s t3 = .v c ∧ R = .tup R1 b c
  | _, _, _ => False

theorem ares1_sound (h : InvAt w0 N β γ σ a w) {x : ResultVar} {R : AV} (hr : ares1 P x σ R) :
    ∃ v, (match x with | .tmp t => (pure (a.tmps.getD t undef) : Sem Value) | .cell t T => do loadVar T (← asAddr (a.tmps.getD t undef))).run P w = .ok v w ∧ RRel w0.heap.size w R v ∧ ∀ R1 b c, R ≠ .tup R1 b c := by
  cases x with
  | tmp t =>
    simp only [ares1] at hr
    have hs := h.slots t
    refine ⟨a.tmps.getD t undef, rfl, ?_⟩
    split at hr
    · rename_i x hx
      rw [hx] at hs
      simp only [Rel] at hs
      rcases hr with rfl | ⟨hn, tag, sz, rfl⟩
      · exact ⟨hs, by simp⟩
      · refine ⟨.inl ⟨⟨none, ?_⟩, rfl⟩, by simp⟩
        rw [hs]
        unfold isNilSl at hn
        split at hn <;> simp_all
    · rename_i t' sz xs hx
      rw [hx] at hs
      obtain ⟨⟨m, ho⟩, ⟨ys, hp⟩, tag, rfl⟩ := hr
      obtain ⟨ad, n, c, h1, h2, h3, h4, h5, h6⟩ := hs
      refine ⟨?_, by simp⟩
      rcases h6 t' m rfl ho with ⟨hc, hγ⟩ | ⟨g, cur, e, rfl, hγ, hh, hcs⟩
      · have hn : n = 0 := by omega
        subst hc hn
        have hx0 : xs = [] := List.eq_nil_of_length_eq_zero (by rw [h3, Nat.zero_mul])
        subst hx0
        exact .inl ⟨⟨ad, h1⟩, rfl⟩
      · refine .inr ⟨g, n, c, cur, e, h1, (h.own t' m g ho hγ).1, hh, h2, h3, hcs, fun j x hj => ?_⟩
        obtain ⟨u, k1, k2, _⟩ := h5 _ rfl j x hj
        rw [add_plain, Nat.zero_add] at k1
        have hcell : cur[j]? = some u := by simpa [World.cell?, hh] using k1
        have hxs := plain_some hp
        rw [hxs] at hj
        simp only [List.getElem?_map, Option.map_eq_some_iff] at hj
        obtain ⟨y, _, rfl⟩ := hj
        simp only [CRel] at k2
        subst k2
        exact ⟨_, rfl, hcell⟩
    · exact hr.elim
  | cell t T =>
    simp only [ares1] at hr
    have hs := h.slots t
    split at hr
    · rename_i k off hx
      rw [hx] at hs
      simp only [Rel] at hs
      obtain ⟨cs, n, ys, h1, h2, h3, h4, rfl⟩ := hr
      obtain ⟨x, v, k1, k2, k3⟩ := run_loadC (P := P) (t := T) (r := rv (.v (.agg ys.toArray))) (β := β) (γ := γ) (o := σ.o) (h.box _ _ h1).2.cells (by
        unfold loadC
        rw [h2]
        exact ⟨ys, h3, h4, rfl⟩)
      have : x = .v (.agg ys.toArray) := by injection k2 with k2; exact k2.symm
      subst this
      refine ⟨v, ?_, k3, by simp⟩
      simp [hs, asAddr, k1]
    · exact hr.elim

theorem ares_sound (h : InvAt w0 N β γ σ a w) {fn : Func} {R : AV} (hr : ares P fn.results.toList σ R) : ∃ v, (results fn a.tmps).run P w = .ok v w ∧ RRel w0.heap.size w R v := by
  unfold ares at hr
  split at hr
  · rename_i x hx
    obtain ⟨v, h1, h2, _⟩ := ares1_sound h hr
    have ha : fn.results = #[x] := by apply Array.ext'; simpa using hx
    refine ⟨v, ?_, h2⟩
    cases x <;> simp_all [results]
  · rename_i x t2 t3 hx
    obtain ⟨R1, b, c, h1, h2, h3, rfl⟩ := hr
    obtain ⟨v, k1, k2, k3⟩ := ares1_sound h h1
    have ha : fn.results = #[x, .tmp t2, .tmp t3] := by apply Array.ext'; simpa using hx
    have e2 := h.slots t2
    rw [h2] at e2
    simp only [Rel] at e2
    have e3 := h.slots t3
    rw [h3] at e3
    simp only [Rel] at e3
    refine ⟨.tuple #[v, b, c], ?_, ?_⟩
    · cases x with
      | tmp t => simp_all [results]
      | cell t T =>
        simp_all [results]
        cases hA : (asAddr (a.tmps[t]?.getD undef)).run P w with
        | ok ad w1 =>
          rw [hA] at k1
          simp only [Result.andThen_ok] at k1 ⊢
          rw [k1]
          rfl
        | halt x w1 => rw [hA] at k1; simp [Result.andThen] at k1
    · cases R1 with
      | v y => simp only [RRel] at k2 ⊢; rw [k2]
      | sl tag sz xs => exact ⟨v, rfl, k2⟩
      | tup x b c => exact absurd rfl (k3 x b c)
      | _ => exact k2.elim
  · exact hr.elim

theorem arg_own {x : AV} {u : Value} {S : Nat → Nat → Prop} {o : Nat → Option Nat} (hok : argOK x = true) (hS : ∀ g p, g < w.heap.size → S g p) (h : ArgRel w x u) : Rel w S β γ o x u := by
  have hst : Stays w (fun _ _ => True) S := fun g p hg _ => hS g p hg
  unfold argOK at hok
  split at hok
  · exact h
  · obtain ⟨ad, h1, h2⟩ := h
    exact ⟨ad, h1, h2.mono (Keeps.refl _ w) hst⟩
  · obtain ⟨ad, n, c, h1, h2, h3, h4, h5, _⟩ := h
    exact ⟨ad, n, c, h1, h2, h3, h4, fun a' ha => (h5 a' ha).mono (Keeps.refl _ w) hst, fun t m ht => by cases ht⟩
  · cases hok

theorem argsRel_get : ∀ {xs : List AV} {us : List Value}, ArgsRel w xs us → xs.length = us.length ∧ ∀ (i : Nat) x u, xs[i]? = some x → us[i]? = some u → ArgRel w x u
  | [], [], _ => ⟨rfl, fun i x u hx => by simp at hx⟩
  | x :: xs, u :: us, h => by
    obtain ⟨h1, h2⟩ := argsRel_get h.2
    refine ⟨by simp [h1], fun i x' u' hx hu => ?_⟩
    cases i with
    | zero =>
      simp only [List.getElem?_cons_zero, Option.some.injEq] at hx hu
      subst hx hu
      exact h.1
    | succ i => exact h2 i x' u' (by simpa using hx) (by simpa using hu)
  | [], _ :: _, h => h.elim
  | _ :: _, [], h => h.elim

theorem inv_st0 {args : List AV} {vals : List Value} (hok : args.all argOK = true) (hle : args.length ≤ N) (h : ArgsRel w args vals) :
    Inv w N (st0 args) { tmps := vals.toArray ++ Array.replicate (N - vals.toArray.size) undef, defers := [] } w := by
  obtain ⟨hl, hrel⟩ := argsRel_get h
  refine ⟨fun _ => 0, fun _ => none, ?_⟩
  refine { below := Below.refl _ _, defers := rfl, size := ?_, slots := fun i => ?_, box := fun k cs hc => ?_, own := fun t m g ht => ?_, injb := fun k k' h1 => ?_, injo := fun t t' g h1 => ?_, bo := fun k t h1 => ?_ }
  · simp; omega
  · have hslot : (st0 args).s i = (args[i]?).getD .bot := by
      show lk .bot (number 0 args) i = _
      rw [number_lk]; simp
    rw [hslot]
    by_cases hi : i < args.length
    · rw [List.getElem?_eq_getElem hi]
      have hu : (vals.toArray ++ Array.replicate (N - vals.toArray.size) undef).getD i undef = vals[i]'(by omega) := by
        rw [Array.getD_eq_getD_getElem?, Array.getElem?_append_left (by simp; omega)]
        simp [show i < vals.length by omega]
      show Rel _ _ _ _ _ _ ((vals.toArray ++ Array.replicate (N - vals.toArray.size) undef).getD i undef)
      rw [hu]
      exact arg_own (List.all_eq_true.1 hok _ (List.getElem_mem hi)) (fun g p hg => .inl hg) (hrel i _ _ (List.getElem?_eq_getElem hi) (List.getElem?_eq_getElem (by omega)))
    · rw [List.getElem?_eq_none (by omega)]
      trivial
  · simp [st0, lk] at hc
  · simp [st0, lk] at ht
  · exact absurd rfl h1
  · exact absurd rfl h1
  · exact absurd rfl h1

def retQ (P : Program) (rs : List ResultVar) (R : AV) : Exit → St → Prop
  | .normal, σ => ares P rs σ R
  | .ret, σ => ares P rs σ R
  | _, _ => False

/-- **A FUNCTION's CONTRACT**: its body upon the state of its arguments comes to a state that bears the result. -/
theorem spec_of {D : Nat → List Oper → (St → Prop) → St → Prop} (hD : DrawOK P G D) {f : FuncId} {fn : Func} {c : Code} {n : Nat} {rs : List ResultVar} (hf : P.funcs[f]? = some fn) (hb : fn.body = some c) (hn : fn.ntmps = n) (hrs : fn.results.toList = rs) (hN : dstsLt n c = true) {args : List AV} {R : AV}
    (hok : args.all argOK = true) (hle : args.length ≤ n) (h : awp P G H D c (retQ P rs R) (st0 args)) : Spec P G f args R := by
  subst hn hrs
  intro w vals hG hargs
  refine calls_of_wp hf hb ?_
  refine wp_mono (awp_sound hD hG c hN _ (st0 args) _ w (inv_st0 hok hle hargs) h) fun e a w' hq => ?_
  obtain ⟨σ, ⟨β, γ, hi⟩, hr⟩ := hq
  cases e with
  | normal =>
    obtain ⟨v, h1, h2⟩ := ares_sound hi hr
    exact ⟨hi.defers, v, h1, v, rfl, h2, hi.below⟩
  | ret =>
    obtain ⟨v, h1, h2⟩ := ares_sound hi hr
    exact ⟨hi.defers, v, h1, v, rfl, h2, hi.below⟩
  | _ => exact hr.elim

end Abs
end Go.Proofs.YtkdpmjgigknbpaaDoor
