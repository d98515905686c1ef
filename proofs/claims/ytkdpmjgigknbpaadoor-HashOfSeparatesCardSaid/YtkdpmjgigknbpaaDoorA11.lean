/-
  EVERY OPERATION does upon worlds what 'core' says of abstract states.
-/
import Derived.Test.YtkdpmjgigknbpaaDoorA10
namespace Go.Proofs.YtkdpmjgigknbpaaDoor
namespace Abs
open Go.RowKit

variable {P : Program} {G : Nat → List Value} {H : Nat → Bool} {w0 w w' : World} {N : Nat} {β : Nat → Nat} {γ : Nat → Option Nat} {σ : St} {a : Act} {S : Nat → Nat → Prop} {o : Nat → Option Nat}

/-! ### Calls -/

theorem Reads.true {xs : List CV} {ad : Addr} (h : Reads w S xs ad) : Reads w (fun _ _ => True) xs ad := h.mono (Keeps.refl S w) (fun _ _ _ _ => trivial)

theorem arg_rel (h : InvAt w0 N β γ σ a w) {x y : AV} {u : Value} (hx : Rel w (Safe w0.heap.size β γ σ) β γ σ.o x u) (hy : argOf σ x = some y) : ArgRel w y u := by
  unfold argOf at hy
  split at hy
  · simp only [Option.some.injEq] at hy; subst hy; exact hx
  · simp only [Option.some.injEq] at hy; subst hy
    obtain ⟨ad, n, c, h1, h2, h3, h4, h5, _⟩ := hx
    exact ⟨ad, n, c, h1, h2, h3, h4, fun a' ha => (h5 a' ha).true, fun t m ht => by cases ht⟩
  · simp only [Option.some.injEq] at hy; subst hy
    obtain ⟨ad, n, h1, h3, h4, h5⟩ := hx
    exact ⟨ad, n, n, h1, Nat.le_refl _, h3, fun ha => ⟨h4 ha, h4 ha⟩, fun a' ha => (h5 a' ha).true, fun t m ht => by cases ht⟩
  · simp only [Option.some.injEq] at hy; subst hy
    obtain ⟨ad, h1⟩ := hx
    exact ⟨ad, 0, 0, h1, Nat.le_refl _, by simp, fun _ => ⟨rfl, rfl⟩, fun a' ha => reads_nil, fun t m ht => by cases ht⟩
  · simp only [Option.some.injEq] at hy; subst hy
    obtain ⟨ad, h1, h2⟩ := hx
    exact ⟨ad, h1, h2.true⟩
  · rename_i k off
    simp only [Option.map_eq_some_iff] at hy
    obtain ⟨cs, hb, rfl⟩ := hy
    simp only [Rel] at hx
    refine ⟨_, hx, fun j x hj => ?_⟩
    obtain ⟨u, q1, q2⟩ := (h.box _ _ hb).2.cells j x hj
    exact ⟨u, q1, q2.mono (Keeps.refl (Safe w0.heap.size β γ σ) w) (fun _ _ _ _ => trivial), trivial⟩
  · rename_i k off len
    cases hb : σ.b k with
    | none => rw [hb] at hy; cases hy
    | some cs =>
      rw [hb] at hy
      simp only [Option.bind_some] at hy
      split at hy
      · rename_i hfit
        simp only [Option.some.injEq] at hy
        subst hy
        obtain ⟨c, h1, h2⟩ := hx
        refine ⟨_, len, c, h1, h2, by rw [List.length_take, List.length_drop]; omega, (fun ha => by cases ha), fun a' ha => ?_, fun t m ht => by cases ht⟩
        simp only [Option.some.injEq] at ha
        subst ha
        refine Reads.take (fun j x hj => ?_) _
        obtain ⟨u, q1, q2⟩ := (h.box _ _ hb).2.cells j x hj
        exact ⟨u, q1, q2.mono (Keeps.refl (Safe w0.heap.size β γ σ) w) (fun _ _ _ _ => trivial), trivial⟩
      · cases hy
  · cases hy

theorem args_rel (h : InvAt w0 N β γ σ a w) : ∀ {xs ys : List AV} {us : List Value}, xs.length = us.length → (∀ (i : Nat) x u, xs[i]? = some x → us[i]? = some u → Rel w (Safe w0.heap.size β γ σ) β γ σ.o x u) → argsOf σ xs = some ys → ArgsRel w ys us
  | [], ys, [], _, _, h2 => by simp [argsOf] at h2; subst h2; trivial
  | x :: xs, ys, u :: us, hl, h1, h2 => by
    simp only [argsOf] at h2
    split at h2
    · rename_i y s e1 e2
      simp only [Option.some.injEq] at h2
      subst h2
      exact ⟨arg_rel h (h1 0 x u rfl rfl) e1, args_rel h (by simpa using hl) (fun i x' u' a b => h1 (i + 1) x' u' a b) e2⟩
    · cases h2
  | [], _, _ :: _, hl, _, _ => by simp at hl
  | _ :: _, _, [], hl, _, _ => by simp at hl

theorem globOK_ext (hG : GlobOK G w0) (hb : Below w0.heap.size w0 w) : GlobOK G w := fun g j x hx => by
  have hc := hG g j x hx
  rw [hb.cell (p := ⟨g, j, none⟩) (cell_lt hc)]
  exact hc

/-- A result is put into its slot. -/
theorem step_result (h : InvAt w0 N β γ σ a w) {d : Nat} (hd : d < N) {R : AV} {v : Value} (hb : Below w.heap.size w w') (hr : RRel w.heap.size w' R v) : Inv w0 N (σ.step (some d) (resOf d R)) (a.put (some d) v) w' := by
  have h2 := h.ext hb
  -- a slice of the callee's own
  have row : ∀ (sz : Nat) (xs : List CV) (v : Value), RRow w.heap.size w' sz xs v → ∃ β' γ', InvAt w0 N β' γ' { (σ.kill d) with o := upd (σ.kill d).o d (some xs.length) } a w' ∧
      Rel w' (Safe w0.heap.size β' γ' { (σ.kill d) with o := upd (σ.kill d).o d (some xs.length) }) β' γ' (upd (σ.kill d).o d (some xs.length)) (.sl (some d) sz xs) v := by
    intro sz xs v hr
    rcases hr with ⟨⟨ad, rfl⟩, rfl⟩ | ⟨g, n, c, cur, e, rfl, hg, hh, hnc, hlen, hcs, hxs⟩
    · obtain ⟨h3, hk, hS⟩ := (h2.kill d).newRow (free_kill d σ) (Below.refl _ w') (go := none) (m := 0) (fun g' hg' => by cases hg')
      exact ⟨_, _, h3, ad, 0, 0, rfl, Nat.le_refl _, by simp, fun _ => ⟨rfl, rfl⟩, (fun ad ha j x hx => by simp at hx), fun t m ht hm => by
        simp only [Option.some.injEq] at ht
        subst ht
        exact .inl ⟨rfl, upd_same _ _ _⟩⟩
    · have h1 := h.kill d
      have hle : xs.length ≤ cur.size := by rw [hlen]; exact Nat.le_trans (Nat.mul_le_mul_right _ hnc) hcs
      obtain ⟨h3, hk, hS⟩ := h1.newRow (free_kill d σ) hb (go := some g) (m := xs.length) (fun g' hg' => by
        simp only [Option.some.injEq] at hg'
        subst hg'
        exact ⟨hg, cur, e, hh, hle⟩)
      refine ⟨_, _, h3, some ⟨g, 0, none⟩, n, c, rfl, hnc, hlen, (fun he => by cases he), fun ad ha j x hx => ?_, fun t m ht hm => ?_⟩
      · simp only [Option.some.injEq] at ha
        subst ha
        obtain ⟨y, rfl, k1⟩ := hxs j x hx
        refine ⟨y, ?_, rfl, .inr ⟨fun k hkb => ?_, fun t m ht hγ => ?_⟩⟩
        · rw [add_plain]
          simp [World.cell?, hh, k1]
        · have := h1.box_lt (k := k) hkb
          show β k ≠ g
          omega
        · show 0 + j < m
          by_cases htd : t = d
          · subst htd
            simp only [upd_same, Option.some.injEq] at ht
            subst ht
            have := (List.getElem?_eq_some_iff.1 hx).1
            omega
          · simp only [upd_ne _ _ htd] at ht hγ
            have := h1.own_lt (t := t) (g := g) (by rw [ht]; simp) hγ
            omega
      · simp only [Option.some.injEq] at ht
        subst ht
        exact .inr ⟨g, cur, e, rfl, upd_same _ _ _, hh, hcs⟩
  unfold resOf
  split
  · rename_i tag sz xs
    obtain ⟨β', γ', h3, h4⟩ := row sz xs v hr
    exact ⟨β', γ', h3.put hd h4⟩
  · rename_i tag sz xs b c
    obtain ⟨x, rfl, hx⟩ := hr
    obtain ⟨β', γ', h3, h4⟩ := row sz xs x hx
    exact ⟨β', γ', h3.put hd (x := .tup (.sl (some d) sz xs) b c) ⟨x, rfl, h4⟩⟩
  · exact h2.pure (dst := some d) (fun d' hd' => by simp only [Option.some.injEq] at hd'; omega) hr
  · exact h2.pure (dst := some d) (fun d' hd' => by simp only [Option.some.injEq] at hd'; omega) ⟨_, hr, rfl⟩
  · exact h2.pure (dst := some d) (fun d' hd' => by simp only [Option.some.injEq] at hd'; omega) trivial

theorem step_call (hG : GlobOK G w0) (h : InvAt w0 N β γ σ a w) {d : Nat} (hd : d < N) {f : FuncId} {xs as : List AV} {us : List Value} {R : AV} (hl : xs.length = us.length)
    (hx : ∀ (i : Nat) x u, xs[i]? = some x → us[i]? = some u → Rel w (Safe w0.heap.size β γ σ) β γ σ.o x u) (ha : argsOf σ xs = some as) (hS : Spec P G f as R) :
    Calls P f us.toArray w fun e w' => ∃ v, e = .returned v ∧ Inv w0 N (σ.step (some d) (resOf d R)) (a.put (some d) v) w' :=
  (hS w us (globOK_ext hG h.below) (args_rel h hl hx ha)).mono fun _ _ ⟨v, he, hr, hb⟩ => ⟨v, he, step_result h hd hb hr⟩

theorem run_callFunc {f : FuncId} {args : Array Value} (hb : hasBody P f = true) : (callFunc f args).run P w = .ok (.enter f args) w := by
  unfold hasBody at hb
  cases hf : P.funcs[f]? with
  | none => rw [hf] at hb; cases hb
  | some fn =>
    rw [hf] at hb
    simp only [Option.map_some, Option.getD_some, Bool.and_eq_true] at hb
    have h1 : fn.body ≠ none := fun e => by rw [e] at hb; simp at hb
    have h2 : fn.name ≠ "runtime.NumGoroutine" := by simpa [bne] using hb.2
    simp [callFunc, run_program, hf]
    rw [if_neg h2, if_neg h1]

theorem eff_pureR {oo : Oper} {s : Sem Value} {r : Res} (h : InvAt w0 N β γ σ a w) (hd : ∀ d, oo.dst = some d → d < N) (hs : (execOp a.eval oo).run P w = (s.run P w).andThen fun v w' => .ok (.value v) w')
    (hp : Pure P w (Safe w0.heap.size β γ σ) β γ σ.o s r) : Eff P oo a w fun v w' => Inv w0 N (σ.step oo.dst r) (a.put oo.dst v) w' := by
  obtain ⟨x, v, h1, rfl, h3⟩ := hp
  exact eff_pure h hd (by rw [hs, h1]; rfl) h3

theorem eff_stepR {oo : Oper} {s : Sem Value} {R : Value → World → Prop} (hs : (execOp a.eval oo).run P w = (s.run P w).andThen fun v w' => .ok (.value v) w') (hp : ∃ v w', s.run P w = .ok v w' ∧ R v w') : Eff P oo a w R := by
  obtain ⟨v, w', h1, h2⟩ := hp
  exact eff_value (by rw [hs, h1]; rfl) h2

theorem two_of {α : Type} : ∀ {l : List α}, l.length = 2 → ∃ p q, l = [p, q]
  | [p, q], _ => ⟨p, q, rfl⟩
  | [], h => by simp at h
  | [_], h => by simp at h
  | _ :: _ :: _ :: _, h => by simp at h

theorem core_sound (hG : GlobOK G w0) (h : InvAt w0 N β γ σ a w) (oo : Oper) (hd : ∀ d, oo.dst = some d → d < N) {r : Res} (hc : core P G H σ oo.dst oo.type oo.op r) :
    Eff P oo a w fun v w' => Inv w0 N (σ.step oo.dst r) (a.put oo.dst v) w' := by
  have hev := fun x => ev_rel hG h x
  obtain ⟨dst, op, type, pos, after, guard⟩ := oo
  cases op with
  | move x =>
    simp only [core] at hc
    subst hc
    exact eff_pure h hd (v := a.eval x) rfl (hev x)
  | assign x =>
    simp only [core] at hc
    exact eff_value (v := a.eval x) rfl (step_assign h hd (hev x) hc)
  | pick c x y =>
    simp only [core] at hc
    unfold pickR at hc
    split at hc
    · rename_i b hcv
      subst hc
      have h1 := hev c
      rw [hcv] at h1
      simp only [Rel] at h1
      refine eff_pure h hd (v := if b then a.eval x else a.eval y) (by simp [execOp, h1, asBool]) ?_
      cases b
      · exact hev y
      · exact hev x
    · exact hc.elim
  | alloc t =>
    simp only [core] at hc
    obtain ⟨d, z, rfl, hz, rfl⟩ := hc
    obtain ⟨v, w', h1, h2⟩ := step_alloc (P := P) h (hd d rfl) hz
    exact eff_value (by simp [execOp, h1]) h2
  | box t x =>
    simp only [core] at hc
    obtain ⟨d, cs, rfl, hz, rfl⟩ := hc
    obtain ⟨v, w', h1, h2⟩ := step_boxv (P := P) (t := t) h (hd d rfl) (hev x) hz
    exact eff_value (by simp [execOp, h1]) h2
  | build t ps => exact eff_pureR h hd (by simp [execOp, Sem.run_map]) (step_build hev hc)
  | buildSlice t n ps => exact eff_stepR (by simp [execOp, Sem.run_map]) (step_buildSlice h hd hev hc)
  | load t x => exact eff_pureR h hd (by simp [execOp, Sem.run_map]) (pure_load h (hev x) hc)
  | store t x y =>
    simp only [core] at hc
    obtain ⟨rfl, hc⟩ := hc
    obtain ⟨w', h1, h2⟩ := step_store (P := P) h (hev y) (hev x) hc
    unfold Eff
    rw [show (execOp a.eval { dst := none, op := .store t x y, type, pos, after, guard }).run P w = .ok .skip w' by simp [execOp, h1]]
    exact h2
  | binOp op t x y yt =>
    simp only [core] at hc
    unfold binR at hc
    split at hc
    · rename_i u v hu hv
      obtain ⟨z, h1, rfl⟩ := hc
      have e1 := hev x
      have e2 := hev y
      rw [hu] at e1
      rw [hv] at e2
      simp only [Rel] at e1 e2
      obtain ⟨k1, k2⟩ := run_bin (P := P) (w := w) h1 x y
      exact eff_pure h hd (v := z) (by simp [execOp, e1, e2, k1, k2]) rfl
    · rename_i tag sz xs u hu hv
      obtain ⟨h1, h2, h3, h4⟩ := hc
      have e1 := hev x
      have e2 := hev y
      rw [hu] at e1
      rw [hv] at e2
      simp only [Rel] at e2
      rcases h4 with ⟨rfl, rfl⟩ | ⟨rfl, rfl⟩
      · obtain ⟨k1, k2⟩ := run_bin_nil (P := P) (w := w) h1 h2 h3 e1 x y .eql (.inl rfl)
        exact eff_pure h hd (v := .bool false) (by simp [execOp, e2, k1, k2]) rfl
      · obtain ⟨k1, k2⟩ := run_bin_nil (P := P) (w := w) h1 h2 h3 e1 x y .neq (.inr rfl)
        exact eff_pure h hd (v := .bool true) (by simp [execOp, e2, k1, k2]) rfl
    · exact hc.elim
  | unOp op t x =>
    simp only [core] at hc
    unfold unR at hc
    split at hc
    · rename_i u hu
      obtain ⟨z, h1, rfl⟩ := hc
      have e1 := hev x
      rw [hu] at e1
      simp only [Rel] at e1
      exact eff_pure h hd (v := z) (by simp [execOp, e1, run_un (P := P) (w := w) h1]) rfl
    · exact hc.elim
  | convert s t x =>
    simp only [core] at hc
    unfold convR at hc
    split at hc
    · rename_i k n hu
      obtain ⟨k', h1, rfl⟩ := hc
      have e1 := hev x
      rw [hu] at e1
      simp only [Rel] at e1
      exact eff_pure h hd (v := .int k' (k'.wrap n)) (by simp [execOp, e1, pure_conv_int (P := P) (w := w) h1]) rfl
    · rename_i s' hu
      obtain ⟨h1, rfl⟩ := hc
      have e1 := hev x
      rw [hu] at e1
      simp only [Rel] at e1
      exact eff_stepR (s := convert s t (.string s')) (by simp [execOp, e1, Sem.run_map]) (step_toBytes h hd h1)
    · rename_i tag sz xs hu
      have e1 := hev x
      rw [hu] at e1
      rcases hc with hc | ⟨t', m, h1, rfl, h3, rfl, h5, rfl⟩
      case inr => exact eff_stepR (s := convert s t (a.eval x)) (by simp [execOp, Sem.run_map]) (step_same h hd h1 h3 h5 e1)
      obtain ⟨h1, rfl, l, h2, rfl⟩ := hc
      obtain ⟨ad, n, c, e2, _, h4, h5, h6, _⟩ := e1
      have h7 := run_toStr (P := P) (w := w) (c := c) h1 h2 (by simpa using h4) (fun ha => (h5 ha).1) (fun ad' ha => (h6 ad' ha).cells)
      exact eff_pure h hd (v := .string ⟨l.toArray⟩) (by simp [execOp, e2, h7]) rfl
    · exact hc.elim
  | sliceToArrayPointer t x => exact eff_pureR h hd (by simp [execOp, Sem.run_map]) (pure_array (hev x) hc)
  | makeFunc f xs cs =>
    simp only [core] at hc
    obtain ⟨x, rfl, h1⟩ := makeFunc_rel (us := xs.toList.map a.eval) (vs := cs.toList.map a.eval) (by simp) (by simp) (fun i x u hx hu => by
      simp only [List.getElem?_map, Option.map_eq_some_iff] at hx hu
      obtain ⟨p, p1, rfl⟩ := hx
      obtain ⟨q, q1, rfl⟩ := hu
      rw [p1] at q1
      simp only [Option.some.injEq] at q1
      subst q1
      exact hev p) hc
    refine eff_pure h hd (v := .func f (xs.map a.eval) (cs.map a.eval)) (by simp [execOp, Instr.makeFunc]) ?_
    have e1 : (xs.toList.map a.eval).toArray = xs.map a.eval := by apply Array.ext'; simp
    have e2 : (cs.toList.map a.eval).toArray = cs.map a.eval := by apply Array.ext'; simp
    rw [e1, e2] at h1
    exact h1
  | makeSlice t x y => exact eff_stepR (by simp [execOp, Sem.run_map]) (step_makeSlice h hd (hev x) (hev y) hc)
  | slice t x lo hi mx => exact eff_pureR h hd (by simp [execOp, Sem.run_map]) (pure_slice hev (hev x) hc)
  | fieldAddr t x f => exact eff_pureR h hd (by simp [execOp, Sem.run_map]) (pure_fieldAddr (hev x) hc)
  | indexAddr t x i => exact eff_pureR h hd (by simp [execOp, Sem.run_map]) (pure_indexAddr (hev i) (hev x) hc)
  | index t x i => exact eff_pureR h hd (by simp [execOp, Sem.run_map]) (pure_index (hev i) (hev x) hc)
  | extract x i => exact eff_pureR h hd (by simp [execOp, Sem.run_map]) (pure_extract (hev x) hc)
  | call c =>
    obtain ⟨callee, args, argTypes⟩ := c
    have hmap : ∀ (i : Nat) x u, (args.toList.map (ev G σ))[i]? = some x → (args.toList.map a.eval)[i]? = some u → Rel w (Safe w0.heap.size β γ σ) β γ σ.o x u := fun i x u hx hu => by
      simp only [List.getElem?_map, Option.map_eq_some_iff] at hx hu
      obtain ⟨p, p1, rfl⟩ := hx
      obtain ⟨q, q1, rfl⟩ := hu
      rw [p1] at q1
      simp only [Option.some.injEq] at q1
      subst q1
      exact hev p
    have harr : (args.toList.map a.eval).toArray = args.map a.eval := by apply Array.ext'; simp
    cases callee with
    | value f =>
      simp only [core] at hc
      unfold callR at hc
      split at hc
      · rename_i fid first caps hf
        obtain ⟨rfl, rfl, hb, d, as, R, rfl, ha, hS, rfl⟩ := hc
        have e1 := hev f
        rw [hf] at e1
        simp only [Rel] at e1
        have hrun : (execOp a.eval { dst := some d, op := .call { callee := .value f, args, argTypes }, type, pos, after, guard }).run P w = .ok (.enter fid (args.map a.eval)) w := by
          simp [execOp, resolve, Deferred.ofValue, e1, invoke, run_callFunc (P := P) (w := w) hb]
        unfold Eff
        rw [hrun, ← harr]
        exact step_call hG h (hd d rfl) (by simp) hmap ha hS
      · rename_i fid k hf
        obtain ⟨hb, d, as, R, rfl, ha, hS, rfl⟩ := hc
        have e1 := hev f
        rw [hf] at e1
        simp only [Rel] at e1
        have hrun : (execOp a.eval { dst := some d, op := .call { callee := .value f, args, argTypes }, type, pos, after, guard }).run P w = .ok (.enter fid (args.map a.eval ++ #[.pointer (some ⟨β k, 0, none⟩)])) w := by
          simp [execOp, resolve, Deferred.ofValue, e1, invoke, run_callFunc (P := P) (w := w) hb]
        have harr2 : (args.toList.map a.eval ++ [Value.pointer (some ⟨β k, 0, none⟩)]).toArray = args.map a.eval ++ #[.pointer (some ⟨β k, 0, none⟩)] := by rw [← harr]; simp
        unfold Eff
        rw [hrun, ← harr2]
        refine step_call hG h (hd d rfl) (by simp) (fun i x u hx hu => ?_) ha hS
        rw [List.getElem?_append] at hx hu
        simp only [List.length_map] at hx hu
        split at hx
        · rename_i hi
          rw [if_pos hi] at hu
          exact hmap i x u hx hu
        · rename_i hi
          rw [if_neg hi] at hu
          cases hj : i - args.toList.length with
          | zero =>
            rw [hj] at hx hu
            simp only [List.getElem?_cons_zero, Option.some.injEq] at hx hu
            subst hx hu
            rfl
          | succ j => rw [hj] at hx; simp at hx
      · exact hc.elim
    | invoke x m => exact hc.elim
    | builtin b =>
      cases b with
      | len =>
        simp only [core] at hc
        split at hc
        · rename_i x t hargs htypes
          have ea : args = #[x] := by apply Array.ext'; simpa using hargs
          have et : argTypes = #[t] := by apply Array.ext'; simpa using htypes
          subst ea et
          have hx := hev x
          have hsl : ∀ ad n c, a.eval x = .slice ad n c → isSlT P t = true → (execOp a.eval { dst, op := .call { callee := .builtin .len, args := #[x], argTypes := #[t] }, type, pos, after, guard }).run P w = .ok (.value (.int .i64 n)) w := fun ad n c e hsl => by
            obtain ⟨e', hu⟩ := isSl_some hsl
            simp [execOp, resolve, invoke, builtin, Builtin.len_, e, run_underlying hu, goInt]
          have hel : ∀ sz, (slEl P t).map (·.1) = some sz → isSlT P t = true := fun sz hs => by
            simp only [Option.map_eq_some_iff] at hs
            obtain ⟨⟨s1, b1⟩, h1, _⟩ := hs
            obtain ⟨e, i, h2, _⟩ := slEl_some h1
            simp [isSlT, h2]
          unfold lenR at hc
          split at hc
          · rename_i s hxv
            obtain ⟨ht, rfl⟩ := hc
            rw [hxv] at hx
            simp only [Rel] at hx
            have hu := isStr_some ht
            exact eff_pure h hd (v := .int .i64 s.size) (by simp [execOp, resolve, invoke, builtin, Builtin.len_, hx, run_underlying hu, goInt]) rfl
          · rename_i tag sz xs hxv
            obtain ⟨h1, h2, rfl⟩ := hc
            rw [hxv] at hx
            obtain ⟨ad, n, c, e1, _, h4, _⟩ := hx
            have hn : xs.length / sz = n := by rw [h4, Nat.mul_div_cancel _ h2]
            exact eff_pure h hd (v := .int .i64 n) (hsl ad n c e1 (hel _ h1)) (by rw [hn]; rfl)
          · rename_i sz xs hxv
            obtain ⟨h1, h2, rfl⟩ := hc
            rw [hxv] at hx
            obtain ⟨ad, n, e1, h4, _⟩ := hx
            have hn : xs.length / sz = n := by rw [h4, Nat.mul_div_cancel _ h2]
            exact eff_pure h hd (v := .int .i64 n) (hsl ad n n e1 (hel _ h1)) (by rw [hn]; rfl)
          · rename_i k off len hxv
            obtain ⟨h1, rfl⟩ := hc
            rw [hxv] at hx
            obtain ⟨c, e1, _⟩ := hx
            exact eff_pure h hd (v := .int .i64 len) (hsl _ len c e1 h1) rfl
          · rename_i sz hxv
            obtain ⟨h1, rfl⟩ := hc
            rw [hxv] at hx
            obtain ⟨ad, e1⟩ := hx
            exact eff_pure h hd (v := .int .i64 0) (hsl _ 0 0 e1 h1) rfl
          · rename_i hxv
            obtain ⟨h1, rfl⟩ := hc
            rw [hxv] at hx
            simp only [Rel] at hx
            exact eff_pure h hd (v := .int .i64 0) (hsl _ 0 0 hx h1) rfl
          · exact hc.elim
        · exact hc.elim
      | append =>
        simp only [core] at hc
        split at hc
        · rename_i x y t u hargs htypes
          have ea : args = #[x, y] := by apply Array.ext'; simpa using hargs
          have et : argTypes = #[t, u] := by apply Array.ext'; simpa using htypes
          subst ea et
          exact eff_stepR (s := Builtin.append_ #[t, u] type #[a.eval x, a.eval y]) (by simp [execOp, resolve, invoke, builtin, Sem.run_map]) (step_append h hd (hev x) (hev y) hc.1 hc.2)
        · exact hc.elim
      | copy =>
        simp only [core] at hc
        split at hc
        · rename_i x y t u hargs htypes
          have ea : args = #[x, y] := by apply Array.ext'; simpa using hargs
          have et : argTypes = #[t, u] := by apply Array.ext'; simpa using htypes
          subst ea et
          exact eff_stepR (s := Builtin.copy_ #[t, u] type #[a.eval x, a.eval y]) (by simp [execOp, resolve, invoke, builtin, Sem.run_map]) (step_copy h hd (hev x) (hev y) hc type)
        · exact hc.elim
      | min =>
        simp only [core] at hc
        unfold mm2 at hc
        split at hc
        · rename_i k x k' y hargs
          obtain ⟨rfl, rfl⟩ := hc
          obtain ⟨p, q, hal⟩ := two_of (l := args.toList) (by have := congrArg List.length hargs; simpa using this)
          · rw [hal] at hargs
            simp only [List.map_cons, List.map_nil, List.cons.injEq, and_true] at hargs
            have ea : args = #[p, q] := by apply Array.ext'; simpa using hal
            subst ea
            have e1 := hev p
            have e2 := hev q
            rw [hargs.1] at e1
            rw [hargs.2] at e2
            simp only [Rel] at e1 e2
            exact eff_pure h hd (v := .int k (if y < x then y else x)) (by simp [execOp, resolve, invoke, builtin, Builtin.min_, Builtin.min2, e1, e2]) rfl
        · exact hc.elim
      | max =>
        simp only [core] at hc
        unfold mm2 at hc
        split at hc
        · rename_i k x k' y hargs
          obtain ⟨rfl, rfl⟩ := hc
          obtain ⟨p, q, hal⟩ := two_of (l := args.toList) (by have := congrArg List.length hargs; simpa using this)
          · rw [hal] at hargs
            simp only [List.map_cons, List.map_nil, List.cons.injEq, and_true] at hargs
            have ea : args = #[p, q] := by apply Array.ext'; simpa using hal
            subst ea
            have e1 := hev p
            have e2 := hev q
            rw [hargs.1] at e1
            rw [hargs.2] at e2
            simp only [Rel] at e1 e2
            exact eff_pure h hd (v := .int k (if y > x then y else x)) (by simp [execOp, resolve, invoke, builtin, Builtin.max_, Builtin.max2, e1, e2]) rfl
        · exact hc.elim
      | _ => exact hc.elim
  | _ => exact hc.elim

end Abs
end Go.Proofs.YtkdpmjgigknbpaaDoor
