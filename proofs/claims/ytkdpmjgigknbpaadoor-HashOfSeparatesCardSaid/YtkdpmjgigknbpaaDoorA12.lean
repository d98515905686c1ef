/-
  Code upon abstract states: conditions, blocks, loops; a function's contract from its body.
-/
import Derived.Test.YtkdpmjgigknbpaaDoorA11
import Derived.Deep.LoopGhost
import Derived.Scope
namespace Go.Proofs.YtkdpmjgigknbpaaDoor
namespace Abs
open Go.RowKit

variable {P : Program} {G : Nat → List Value} {H : Nat → Bool} {w0 w w' : World} {N : Nat} {β : Nat → Nat} {γ : Nat → Option Nat} {σ : St} {a : Act}

/-- There is an effect with R, and K holds of it. -/
def ex (R : Res → Prop) (K : Res → Prop) : Prop := ∃ r, R r ∧ K r
def kst (K : St → Prop) (σ : St) (dst : Option Nat) : Res → Prop := fun r => K (σ.step dst r)
def astep (P : Program) (G : Nat → List Value) (H : Nat → Bool) (o : Oper) (K : St → Prop) (σ : St) : Prop := ex (core P G H σ o.dst o.type o.op) (kst K σ o.dst)

def St.blank (σ : St) (dst : Option Nat) : St := match dst with | some d => σ.set d (.v undef) | none => σ

/-- What has been yielded decides. -/
def agate (x : AV) (want : Bool) (A B : St → Prop) (dst : Option Nat) (σ : St) : Prop :=
  match x with
  | .v (.bool b) => if b = want then A σ else B (σ.blank dst)
  | .v _ => B (σ.blank dst)
  | _ => False
/-- An operation that may be guarded by what another has yielded. -/
def gate (ops : List Oper) (o : Oper) (A B : St → Prop) (σ : St) : Prop :=
  match o.guard with
  | none => A σ
  | some (j, want) => match (ops[j]?).bind (·.dst) with
    | some d => agate (σ.s d) want A B o.dst σ
    | none => False

def aops (P : Program) (G : Nat → List Value) (H : Nat → Bool) (ops : List Oper) : List Oper → (St → Prop) → St → Prop
  | [], Q, σ => Q σ
  | o :: rest, Q, σ => gate ops o (astep P G H o (aops P G H ops rest Q)) (aops P G H ops rest Q) σ

def thenQ (K : St → Prop) (Q : Exit → St → Prop) : Exit → St → Prop
  | .normal, σ => K σ
  | e, σ => Q e σ
def blockQ (id : Nat) (Q : Exit → St → Prop) : Exit → St → Prop
  | .exit id', σ => if id' = id then Q .normal σ else Q (.exit id') σ
  | e, σ => Q e σ
def scopeQ (Q : Exit → St → Prop) : Exit → St → Prop
  | .goto _, _ => False
  | e, σ => Q e σ
def acond (x : AV) (A B : St → Prop) (σ : St) : Prop :=
  match x with
  | .v (.bool b) => (b = true → A σ) ∧ (b = false → B σ)
  | _ => False

/-- Less is known. -/
def AVle (x y : AV) : Prop := y = x ∨ y = .bot ∨ ∃ t sz xs, x = .sl t sz xs ∧ y = .sl none sz xs
structure StLe0 (σ σ' : St) : Prop where
  s : ∀ i, AVle (σ.s i) (σ'.s i)
  b : ∀ k cs, σ'.b k = some cs → σ.b k = some cs
  o : ∀ t m, σ'.o t = some m → σ.o t = some m
/-- .. when a slice of the call's own may have been named anew, after its slot. -/
def StLe (σ σ' : St) : Prop := StLe0 σ σ' ∨ ∃ d t sz xs, σ.s d = .sl (some t) sz xs ∧ t ≠ d ∧ StLe0 ((σ.kill d).app (some d) ⟨.sl (some d) sz xs, none, [(t, none), (d, σ.o t)], true⟩) σ'

/-- A loop: states T x, told by x with I x; every round lowers μ. -/
def aloop (W : (Exit → St → Prop) → St → Prop) (Q : Exit → St → Prop) (σ : St) : Prop :=
  ∃ (X : Type) (T : X → St) (I : X → Prop) (μ : X → Nat), (∃ x, I x ∧ StLe σ (T x)) ∧ ∀ x, I x → W (thenQ (fun σ' => ∃ x', I x' ∧ μ x' < μ x ∧ StLe σ' (T x')) Q) (T x)

def awp (P : Program) (G : Nat → List Value) (H : Nat → Bool) (D : Nat → List Oper → (St → Prop) → St → Prop) : Code → (Exit → St → Prop) → St → Prop
  | .skip, Q, σ => Q .normal σ
  | .label _, Q, σ => Q .normal σ
  | .region id ops draw, Q, σ => if draw then D id ops.toList (Q .normal) σ else aops P G H ops.toList ops.toList (Q .normal) σ
  | .seq x y, Q, σ => awp P G H D x (thenQ (awp P G H D y Q) Q) σ
  | .cond c x y, Q, σ => acond (ev G σ c) (awp P G H D x Q) (awp P G H D y Q) σ
  | .block id c, Q, σ => awp P G H D c (blockQ id Q) σ
  | .scope c, Q, σ => awp P G H D c (scopeQ Q) σ
  | .loop c, Q, σ => aloop (awp P G H D c) Q σ
  | .exit id, Q, σ => Q (.exit id) σ
  | .ret, Q, σ => Q .ret σ
  | _, _, _ => False

/-! ### Soundness -/

theorem Rel.le {S : Nat → Nat → Prop} {o : Nat → Option Nat} {x y : AV} {u : Value} (h : AVle x y) (hr : Rel w S β γ o x u) : Rel w S β γ o y u := by
  rcases h with rfl | rfl | ⟨t, sz, xs, rfl, rfl⟩
  · exact hr
  · trivial
  · obtain ⟨ad, n, c, h1, h2, h3, h4, h5, _⟩ := hr
    exact ⟨ad, n, c, h1, h2, h3, h4, h5, fun t m ht => by cases ht⟩

theorem Inv.le0 {σ' : St} (hl : StLe0 σ σ') (h : Inv w0 N σ a w) : Inv w0 N σ' a w := by
  obtain ⟨β, γ, h⟩ := h
  exact ⟨β, γ, h.weaken (fun i u hr => hr.le (hl.s i)) hl.b hl.o⟩
theorem put_same (a : Act) (d : Nat) : a.put (some d) (a.tmps.getD d undef) = a := by
  have e : a.tmps.setIfInBounds d (a.tmps.getD d undef) = a.tmps := by
    apply Array.ext_getElem?
    intro i
    rw [Array.getElem?_setIfInBounds]
    by_cases h : d = i
    · subst h
      by_cases hd : d < a.tmps.size
      · simp [hd]
      · simp [hd]
    · rw [if_neg h]
  simp only [Act.put, e]
theorem Inv.le {σ' : St} (hl : StLe σ σ') (h : Inv w0 N σ a w) : Inv w0 N σ' a w := by
  rcases hl with hl | ⟨d, t, sz, xs, hs, htd, hl⟩
  · exact h.le0 hl
  · obtain ⟨β, γ, h⟩ := h
    have hx := h.slots d
    rw [hs] at hx
    have hd : d < N := by
      rcases Nat.lt_or_ge d N with hd | hd
      · exact hd
      · have hu : a.tmps.getD d undef = undef := by
          rw [Array.getD_eq_getD_getElem?, Array.getElem?_eq_none (by rw [h.size]; exact hd)]; rfl
        rw [hu] at hx
        obtain ⟨_, _, _, e, _⟩ := hx
        cases e
    have h2 := step_assign (dst := some d) (ty := none) h (fun d' e => by cases e; exact hd) hx (r := ⟨.sl (some d) sz xs, none, [(t, none), (d, σ.o t)], true⟩) ⟨d, rfl, .inl ⟨htd, rfl⟩⟩
    rw [put_same] at h2
    exact Inv.le0 hl h2

def lift (w0 : World) (N : Nat) (Q : Exit → St → Prop) : Exit → Act → World → Prop := fun e a w => ∃ σ, Inv w0 N σ a w ∧ Q e σ

theorem eff_wp {o : Oper} {R : Value → World → Prop} {next : Act → World → Prop} {Q : Exit → Act → World → Prop} (h : Eff P o a w R) (hn : ∀ v w', R v w' → next (a.put o.dst v) w') : o.wp P a w next Q := by
  unfold Oper.wp
  unfold Eff at h
  generalize (execOp a.eval o).run P w = r at h ⊢
  cases r with
  | halt x w' => exact h.elim
  | ok n w' =>
    cases n <;> simp only [EffR] at h
    case value v => exact hn v w' h
    case skip => exact hn undef w' h
    case enter f args => exact h.mono fun e w'' ⟨v, he, hR⟩ => by subst he; exact hn v w'' hR

theorem Inv.blank (h : Inv w0 N σ a w) {dst : Option Nat} (hd : ∀ d, dst = some d → d < N) : Inv w0 N (σ.blank dst) (a.put dst undef) w := by
  obtain ⟨β, γ, h⟩ := h
  cases dst with
  | none => exact ⟨β, γ, h⟩
  | some d => exact ⟨β, γ, h.put (hd d rfl) (x := .v undef) rfl⟩

theorem yielded_of (h : Inv w0 N σ a w) {ops : Array Oper} {j d : Nat} {b : Bool} (hj : (ops[j]?).bind (·.dst) = some d) (hs : σ.s d = .v (.bool b)) (hdN : d < N) : yielded ops a.tmps j = some b := by
  obtain ⟨β, γ, h⟩ := h
  have := h.slots d
  rw [hs] at this
  simp only [Rel] at this
  have h2 : a.tmps[d]? = some (.bool b) := by
    rw [Array.getD_eq_getD_getElem?] at this
    rw [getElem?_pos a.tmps d (by rw [h.size]; exact hdN)] at this ⊢
    simpa using this
  unfold yielded
  cases ho : ops[j]? with
  | none => rw [ho] at hj; cases hj
  | some o =>
    rw [ho] at hj
    simp only [Option.bind_some] at hj
    simp [hj, h2]

theorem yielded_not (h : Inv w0 N σ a w) {ops : Array Oper} {j d : Nat} {x : Value} (hj : (ops[j]?).bind (·.dst) = some d) (hs : σ.s d = .v x) (hx : ∀ b, x ≠ .bool b) : yielded ops a.tmps j = none := by
  obtain ⟨β, γ, h⟩ := h
  have := h.slots d
  rw [hs] at this
  simp only [Rel] at this
  have h2 : ∀ b, a.tmps[d]? ≠ some (.bool b) := by
    intro b hb
    rw [Array.getD_eq_getD_getElem?, hb] at this
    exact hx b this.symm
  unfold yielded
  cases ho : ops[j]? with
  | none => rfl
  | some o =>
    rw [ho] at hj
    simp only [Option.bind_some] at hj
    simp only [Option.bind_some, hj]

theorem gate_sound (h : Inv w0 N σ a w) {ops : Array Oper} (hN : ∀ (j : Nat) o d, ops[j]? = some o → o.dst = some d → d < N) {o : Oper} {A B : St → Prop} (hg : gate ops.toList o A B σ) :
    (Region.wanted o (yielded ops a.tmps) = true ∧ A σ) ∨ (Region.wanted o (yielded ops a.tmps) = false ∧ B (σ.blank o.dst)) := by
  unfold gate agate at hg
  split at hg
  · rename_i hgd
    exact .inl ⟨by simp [Region.wanted, hgd], hg⟩
  · rename_i j want hgd
    split at hg
    · rename_i d hj
      split at hg
      · rename_i b hs
        have hj' : (ops[j]?).bind (·.dst) = some d := by simpa using hj
        have hdN : d < N := by
          cases ho : ops[j]? with
          | none => rw [ho] at hj'; cases hj'
          | some o' => rw [ho] at hj'; exact hN j o' d ho hj'
        have hy := yielded_of h hj' hs hdN
        split at hg
        · rename_i hb
          exact .inl ⟨by simp [Region.wanted, hgd, hy, hb], hg⟩
        · rename_i hb
          exact .inr ⟨by simp [Region.wanted, hgd, hy, hb], hg⟩
      · rename_i x hnb hs
        have hj' : (ops[j]?).bind (·.dst) = some d := by simpa using hj
        have hy := yielded_not h hj' hs (fun b hb => hnb b hb)
        exact .inr ⟨by simp [Region.wanted, hgd, hy], hg⟩
      · exact hg.elim
    · exact hg.elim

theorem aops_sound (hG : GlobOK G w0) {ops : Array Oper} (hN : ∀ (j : Nat) o d, ops[j]? = some o → o.dst = some d → d < N) {Q : Exit → St → Prop} :
    ∀ (l : List Oper), (∀ o ∈ l, ∀ d, o.dst = some d → d < N) → ∀ (σ : St) (a : Act) (w : World), Inv w0 N σ a w → aops P G H ops.toList l (Q .normal) σ → wpList P ops (lift w0 N Q) l a w
  | [], _, σ, a, w, h, hq => ⟨σ, h, hq⟩
  | o :: l, hl, σ, a, w, h, hq => by
    have ih := aops_sound hG hN (Q := Q) l (fun o ho => hl o (List.mem_cons_of_mem _ ho))
    have hd := hl o List.mem_cons_self
    unfold wpList
    rcases gate_sound h hN hq with ⟨hw, r, hc, hk⟩ | ⟨hw, hb⟩
    · rw [if_pos hw]
      obtain ⟨β, γ, h'⟩ := h
      exact .inl (eff_wp (core_sound hG h' o hd hc) fun v w' hi => ih _ _ _ hi hk)
    · rw [if_neg (by rw [hw]; simp)]
      exact ih _ _ _ (h.blank hd) hb

/-- Every slot that the code writes is one of the frame's. -/
def dstsLt (N : Nat) : Code → Bool
  | .region _ ops _ => ops.toList.all fun o => match o.dst with | some d => decide (d < N) | none => true
  | .seq x y | .cond _ x y => dstsLt N x && dstsLt N y
  | .block _ c | .loop c | .scope c => dstsLt N c
  | _ => true

def DrawOK (P : Program) (G : Nat → List Value) (D : Nat → List Oper → (St → Prop) → St → Prop) : Prop :=
  ∀ (w0 : World) (N : Nat) (id : Nat) (ops : Array Oper) (Q : Exit → St → Prop) (σ : St) (a : Act) (w : World), GlobOK G w0 → (∀ o ∈ ops.toList, ∀ d, o.dst = some d → d < N) → Inv w0 N σ a w → D id ops.toList (Q .normal) σ → (Code.region id ops true).wp P (lift w0 N Q) a w

theorem lift_then {x : Code} {K : St → Prop} {Q : Exit → St → Prop} {K' : Act → World → Prop} (hk : ∀ σ a w, Inv w0 N σ a w → K σ → K' a w) (h : x.wp P (lift w0 N (thenQ K Q)) a w) : x.wp P (Exit.then K' (lift w0 N Q)) a w := by
  refine wp_mono h fun e a w hq => ?_
  obtain ⟨σ, hi, hq⟩ := hq
  cases e with
  | normal => exact hk σ a w hi hq
  | _ => exact ⟨σ, hi, hq⟩

theorem awp_sound {D : Nat → List Oper → (St → Prop) → St → Prop} (hD : DrawOK P G D) (hG : GlobOK G w0) : ∀ (c : Code), dstsLt N c = true → ∀ (Q : Exit → St → Prop) (σ : St) (a : Act) (w : World), Inv w0 N σ a w → awp P G H D c Q σ → c.wp P (lift w0 N Q) a w
  | .skip, _, Q, σ, a, w, h, hq => wp_skip ⟨σ, h, hq⟩
  | .label _, _, Q, σ, a, w, h, hq => wp_label ⟨σ, h, hq⟩
  | .region id ops draw, hN, Q, σ, a, w, h, hq => by
    have hN' : ∀ o ∈ ops.toList, ∀ d, o.dst = some d → d < N := fun o ho d hd => by
      simp only [dstsLt, List.all_eq_true] at hN
      have := hN o ho
      rw [hd] at this
      simpa using this
    cases draw with
    | true => exact hD w0 N id ops Q σ a w hG hN' h hq
    | false =>
      refine wp_region_list (aops_sound hG (fun j o d ho hd => hN' o ?_ d hd) ops.toList hN' σ a w h hq)
      exact Array.mem_toList_iff.2 (Array.mem_of_getElem? ho)
  | .seq x y, hN, Q, σ, a, w, h, hq => by
    simp only [dstsLt, Bool.and_eq_true] at hN
    exact wp_seq (lift_then (fun σ a w hi hk => awp_sound hD hG y hN.2 Q σ a w hi hk) (awp_sound hD hG x hN.1 _ σ a w h hq))
  | .cond c x y, hN, Q, σ, a, w, h, hq => by
    simp only [dstsLt, Bool.and_eq_true] at hN
    simp only [awp, acond] at hq
    split at hq
    · rename_i b hb
      obtain ⟨β, γ, h'⟩ := h
      have he := ev_rel hG h' c
      rw [hb] at he
      simp only [Rel] at he
      cases b with
      | true => exact wp_cond_true he (awp_sound hD hG x hN.1 Q σ a w ⟨β, γ, h'⟩ (hq.1 rfl))
      | false => exact wp_cond_false he (awp_sound hD hG y hN.2 Q σ a w ⟨β, γ, h'⟩ (hq.2 rfl))
    · exact hq.elim
  | .block id c, hN, Q, σ, a, w, h, hq => by
    refine wp_block (wp_mono (awp_sound hD hG c hN _ σ a w h hq) fun e a w hq => ?_)
    obtain ⟨σ, hi, hq⟩ := hq
    cases e with
    | exit id' =>
      simp only [blockQ] at hq
      simp only [Exit.inBlock]
      split
      · rename_i he; rw [if_pos he] at hq; exact ⟨σ, hi, hq⟩
      · rename_i he; rw [if_neg he] at hq; exact ⟨σ, hi, hq⟩
    | _ => exact ⟨σ, hi, hq⟩
  | .loop c, hN, Q, σ, a, w, h, hq => by
    obtain ⟨X, T, I, μ, ⟨x0, hx0, hle⟩, hround⟩ := hq
    refine wp_loop_ghost (fun n a w => ∃ x, I x ∧ μ x = n ∧ Inv w0 N (T x) a w) (μ x0) ⟨x0, hx0, rfl, h.le hle⟩ ?_
    rintro n a w ⟨x, hx, rfl, hi⟩
    refine lift_then (fun σ a w hi hk => ?_) (awp_sound hD hG c hN _ (T x) a w hi (hround x hx))
    obtain ⟨x', h1, h2, h3⟩ := hk
    exact ⟨μ x', h2, x', h1, rfl, hi.le h3⟩
  | .exit id, _, Q, σ, a, w, h, hq => wp_exit ⟨σ, h, hq⟩
  | .ret, _, Q, σ, a, w, h, hq => wp_ret ⟨σ, h, hq⟩
  | .rangeFunc _ _ _ _, _, _, _, _, _, _, hq => hq.elim
  | .scope c, hN, Q, σ, a, w, h, hq => by
    refine wp_scope_straight (wp_mono (awp_sound hD hG c hN _ σ a w h hq) fun e a w hq => ?_)
    obtain ⟨σ, hi, hq⟩ := hq
    cases e with
    | goto l => exact hq.elim
    | _ => exact ⟨σ, hi, hq⟩
  | .goto _, _, _, _, _, _, _, hq => hq.elim
  | .refuse _, _, _, _, _, _, _, hq => hq.elim

end Abs
end Go.Proofs.YtkdpmjgigknbpaaDoor
