/-
  Each operation does upon worlds what 'core' says of abstract states: slice expressions, addresses, elements.
-/
import Derived.Test.YtkdpmjgigknbpaaDoorA5
namespace Go.Proofs.YtkdpmjgigknbpaaDoor
namespace Abs
open Go.RowKit

variable {P : Program} {G : Nat → List Value} {H : Nat → Bool} {w0 w w' : World} {N : Nat} {β : Nat → Nat} {γ : Nat → Option Nat} {σ : St} {a : Act} {S : Nat → Nat → Prop} {o : Nat → Option Nat}

theorem Pure.mk (s : Sem Value) (x : AV) (v : Value) (hr : s.run P w = .ok v w) (hx : Rel w S β γ o x v) : Pure P w S β γ o s (rv x) := ⟨x, v, hr, rfl, hx⟩

theorem bound_ev {d l : Nat} {lo : Option Operand} (hev : ∀ x, Rel w S β γ o (ev G σ x) (a.eval x)) (h : boundR d (lo.map (ev G σ)) l) :
    (lo.map a.eval = none ∧ l = d) ∨ ∃ k n, lo.map a.eval = some (.int k n) ∧ 0 ≤ n ∧ l = n.toNat :=
  bound_of (Q := Rel w S β γ o) (fun _ _ hq => hq) hev h

theorem pure_slice {t : TypeId} {x : AV} {u : Value} {lo hi mx : Option Operand} {r : Res} (hev : ∀ x, Rel w S β γ o (ev G σ x) (a.eval x)) (hx : Rel w S β γ o x u)
    (hc : sliceR P t (lo.map (ev G σ)) (hi.map (ev G σ)) (mx.map (ev G σ)) x r) : Pure P w S β γ o (Instr.sliceAt t u (lo.map a.eval) (hi.map a.eval) (mx.map a.eval)) r := by
  unfold sliceR at hc
  split at hc
  · rename_i s
    obtain ⟨ht, hm, l, h, hl, hh, h1, h2, rfl⟩ := hc
    simp only [Rel] at hx
    subst hx
    have hu := isStr_some ht
    have hmx : mx = none := by cases mx <;> simp_all
    subst hmx
    refine Pure.mk _ _ _ ?_ rfl
    simp [Instr.sliceAt, Instr.slice, run_underlying hu, run_bounds2 (P := P) (w := w) (isS := false) (bound_ev hev hl) (bound_ev hev hh) h1 h2]
  · rename_i tag sz xs
    obtain ⟨b, n, l, h, ht, hsz, hn, hl, hh, h1, h2, hr⟩ := hc
    obtain ⟨e, i, hu, hi1, hi2, _⟩ := slEl_some ht
    obtain ⟨ad, len, c, rfl, h3, h4, h5, h6, _⟩ := hx
    have hlen : n = len := by rw [hn, h4, Nat.mul_div_cancel _ hsz]
    subst hlen
    have hhc : h ≤ c := Nat.le_trans h2 h3
    have hread : ∀ ad', ad = some ad' → Reads w S ((xs.take (h * sz)).drop (l * sz)) (ad'.add (l * sz)) := fun ad' ha => ((h6 ad' ha).take _).drop _
    have hlen2 : ((xs.take (h * sz)).drop (l * sz)).length = (h - l) * sz := by
      have : h * sz ≤ n * sz := Nat.mul_le_mul_right _ h2
      rw [List.length_drop, List.length_take, h4, Nat.min_eq_left this, Nat.sub_mul]
    rcases hr with ⟨hm, rfl⟩ | ⟨m, hhi, hm, hmn, rfl, rfl⟩
    · have hmx : mx = none := by cases mx <;> simp_all
      subst hmx
      refine Pure.mk _ _ (.slice (if c = l then ad else ad.map (·.add (l * sz))) (h - l) (c - l)) ?_ ⟨_, _, _, rfl, by omega, hlen2, ?_, ?_, fun t m ht => by cases ht⟩
      · simp [Instr.sliceAt, Instr.slice, run_underlying hu, run_bounds2 (P := P) (w := w) (isS := true) (bound_ev hev hl) (bound_ev hev hh) h1 hhc, sizeOf, typeInfo, hi1, hi2]
      · intro ha
        have : ad = none := by split at ha <;> simp_all
        have := h5 this
        omega
      · intro ad' ha
        split at ha
        · rename_i hcl
          have : (xs.take (h * sz)).drop (l * sz) = [] := List.eq_nil_of_length_eq_zero (by rw [hlen2, show h - l = 0 by omega, Nat.zero_mul])
          rw [this]; exact reads_nil
        · simp only [Option.map_eq_some_iff] at ha
          obtain ⟨ad'', ha, rfl⟩ := ha
          exact hread ad'' ha
    · rcases bound_ev hev hh with ⟨e1, e2⟩ | ⟨k1, n1, e1, e2, e3⟩
      · cases hi <;> simp_all
      rcases bound_ev hev hm with ⟨e4, e5⟩ | ⟨k2, n2, e4, e5, e6⟩
      · cases mx <;> simp_all
      refine Pure.mk _ _ (.slice (if m = l then ad else ad.map (·.add (l * sz))) (m - l) (m - l)) ?_ ⟨_, _, rfl, hlen2, ?_, ?_⟩
      · simp [Instr.sliceAt, Instr.slice, run_underlying hu, e1, e4, run_bounds3 (P := P) (w := w) (bound_ev hev hl) e2 e3 e5 e6 h1 hhc, sizeOf, typeInfo, hi1, hi2]
      · intro ha
        have : ad = none := by split at ha <;> simp_all
        have := h5 this
        omega
      · intro ad' ha
        split at ha
        · rename_i hcl
          have : (xs.take (m * sz)).drop (l * sz) = [] := List.eq_nil_of_length_eq_zero (by rw [hlen2, show m - l = 0 by omega, Nat.zero_mul])
          rw [this]; exact reads_nil
        · simp only [Option.map_eq_some_iff] at ha
          obtain ⟨ad'', ha, rfl⟩ := ha
          exact hread ad'' ha
  · rename_i k off
    obtain ⟨hm, n, l, h, ht, hl, hh, h1, h2, h3, rfl⟩ := hc
    obtain ⟨e, i, hu, hi1, hi2⟩ := arEl_some ht
    have hmx : mx = none := by cases mx <;> simp_all
    subst hmx
    simp only [Rel] at hx
    subst hx
    refine Pure.mk _ _ (.slice (some ⟨β k, off + l, none⟩) (h - l) (n - l)) ?_ ⟨_, rfl, by omega⟩
    simp [Instr.sliceAt, Instr.sureAddr, run_underlying hu, run_bounds2 (P := P) (w := w) (isS := false) (bound_ev hev hl) (bound_ev hev hh) h1 h2, sizeOf, typeInfo, hi1, hi2, show ¬ n = l by omega, add_plain]
  · rename_i xs
    obtain ⟨hm, n, l, h, ht, hl, hh, h1, h2, h3, rfl⟩ := hc
    obtain ⟨e, i, hu, hi1, hi2⟩ := arEl_some ht
    have hmx : mx = none := by cases mx <;> simp_all
    subst hmx
    obtain ⟨ad, rfl, hr⟩ := hx
    have hlen : ((xs.take h).drop l).length = (h - l) * 1 := by rw [List.length_drop, List.length_take]; omega
    refine Pure.mk _ _ (.slice (some (if n = l then ad else ad.add l)) (h - l) (n - l)) ?_ ⟨_, _, _, rfl, by omega, hlen, (fun ha => by cases ha), ?_, fun t m ht => by cases ht⟩
    · simp [Instr.sliceAt, Instr.sureAddr, run_underlying hu, run_bounds2 (P := P) (w := w) (isS := false) (bound_ev hev hl) (bound_ev hev hh) h1 h2, sizeOf, typeInfo, hi1, hi2]
    · intro ad' ha
      simp only [Option.some.injEq] at ha
      subst ha
      split
      · have : (xs.take h).drop l = [] := List.eq_nil_of_length_eq_zero (by rw [hlen]; omega)
        rw [this]; exact reads_nil
      · exact (hr.take _).drop _
  · exact hc.elim

theorem fOff_some {t : TypeId} {f d : Nat} (h : fOff P t f = some d) : ∃ (fs : Array Field) (x : Field) (i : TypeInfo), P.underlying t = some (.struct fs) ∧ fs[f]? = some x ∧ P.info? x.type = some i ∧ i.size ≠ 0 ∧ x.offset = d := by
  unfold fOff at h
  split at h
  · rename_i fs hu
    cases hx : fs[f]? with
    | none => rw [hx] at h; cases h
    | some x =>
      rw [hx] at h
      simp only [Option.bind_some] at h
      split at h
      · rename_i s hs
        simp only [Option.some.injEq] at h
        simp only [Option.map_eq_some_iff] at hs
        obtain ⟨i, h1, h2⟩ := hs
        exact ⟨fs, x, i, hu, hx, h1, by omega, h⟩
      · cases h
  · cases h

theorem pure_fieldAddr {t : TypeId} {f : Nat} {x : AV} {u : Value} {r : Res} (hx : Rel w S β γ o x u) (hc : fieldAddrR (fOff P t f) x r) : Pure P w S β γ o (Instr.fieldAt t u f) r := by
  unfold fieldAddrR at hc
  split at hc
  · rename_i k off
    obtain ⟨d, h1, rfl⟩ := hc
    obtain ⟨fs, x, i, k1, k2, k3, k4, rfl⟩ := fOff_some h1
    simp only [Rel] at hx
    subst hx
    refine Pure.mk _ _ (.pointer (some ⟨β k, off + x.offset, none⟩)) ?_ rfl
    simp [Instr.fieldAt, Instr.sureAddr, run_underlying k1, k2, fieldPlace, sizeOf, typeInfo, k3, k4, add_plain]
  · rename_i xs
    obtain ⟨d, h1, rfl⟩ := hc
    obtain ⟨fs, x, i, k1, k2, k3, k4, rfl⟩ := fOff_some h1
    obtain ⟨ad, rfl, hr⟩ := hx
    refine Pure.mk _ _ (.pointer (some (ad.add x.offset))) ?_ ⟨_, rfl, hr.drop _⟩
    simp [Instr.fieldAt, Instr.sureAddr, run_underlying k1, k2, fieldPlace, sizeOf, typeInfo, k3, k4]
  · exact hc.elim

theorem pure_indexAddr {t : TypeId} {i x : AV} {u v : Value} {r : Res} (hi : Rel w S β γ o i v) (hx : Rel w S β γ o x u) (hc : indexAddrR P t i x r) : Pure P w S β γ o (Instr.indexAt t u v) r := by
  unfold indexAddrR at hc
  split at hc
  · rename_i ki i
    simp only [Rel] at hi
    subst hi
    split at hc
    · rename_i tag sz xs
      obtain ⟨b, h1, h2, h3, rfl⟩ := hc
      obtain ⟨e, j, k1, k2, k3, _⟩ := slEl_some h1
      obtain ⟨ad, n, c, rfl, h4, h5, h6, h7, _⟩ := hx
      have hlt : i.toNat < n := by
        rw [h5] at h3
        exact Nat.lt_of_mul_lt_mul_right h3
      cases ad with
      | none => have := (h6 rfl).1; omega
      | some ad =>
        refine Pure.mk _ _ (.pointer (some (ad.add (i.toNat * sz)))) ?_ ⟨_, rfl, (h7 ad rfl).drop _⟩
        simp [Instr.indexAt, asIntOf, run_underlying k1, h2, show i < (n : Int) by omega, sizeOf, typeInfo, k2, k3]
    · rename_i k off len
      obtain ⟨b, h1, h2, h3, rfl⟩ := hc
      obtain ⟨e, j, k1, k2, k3, _⟩ := slEl_some h1
      obtain ⟨c, rfl, h4⟩ := hx
      refine Pure.mk _ _ (.pointer (some ⟨β k, off + i.toNat, none⟩)) ?_ rfl
      simp [Instr.indexAt, asIntOf, run_underlying k1, h2, h3, sizeOf, typeInfo, k2, k3, add_plain]
    · rename_i k off
      obtain ⟨n, sz, h1, h2, h3, rfl⟩ := hc
      obtain ⟨e, j, k1, k2, k3⟩ := arEl_some h1
      simp only [Rel] at hx
      subst hx
      refine Pure.mk _ _ (.pointer (some ⟨β k, off + i.toNat * sz, none⟩)) ?_ rfl
      simp [Instr.indexAt, Instr.sureAddr, asIntOf, run_underlying k1, h2, h3, sizeOf, typeInfo, k2, k3, add_plain]
    · rename_i xs
      obtain ⟨n, sz, h1, h2, h3, rfl⟩ := hc
      obtain ⟨e, j, k1, k2, k3⟩ := arEl_some h1
      obtain ⟨ad, rfl, hr⟩ := hx
      refine Pure.mk _ _ (.pointer (some (ad.add (i.toNat * sz)))) ?_ ⟨_, rfl, hr.drop _⟩
      simp [Instr.indexAt, Instr.sureAddr, asIntOf, run_underlying k1, h2, h3, sizeOf, typeInfo, k2, k3]
    · exact hc.elim
  · exact hc.elim

theorem pure_index {t : TypeId} {i x : AV} {u v : Value} {r : Res} (hi : Rel w S β γ o i v) (hx : Rel w S β γ o x u) (hc : indexR P t i x r) : Pure P w S β γ o (Instr.index t u v) r := by
  unfold indexR at hc
  split at hc
  · rename_i ki i
    simp only [Rel] at hi
    subst hi
    split at hc
    · rename_i s
      obtain ⟨h1, h2, b, h3, rfl⟩ := hc
      have hu := isStr_some h1
      simp only [Rel] at hx
      subst hx
      refine Pure.mk _ _ (.int .u8 b.toNat) ?_ rfl
      have hb : s[i.toNat]? = some b := by
        have hlt : i.toNat < s.data.toList.length := (List.getElem?_eq_some_iff.1 h3).1
        have hlt' : i.toNat < s.size := by simpa using hlt
        rw [getElem?_pos s i.toNat hlt']
        have := (List.getElem?_eq_some_iff.1 h3).2
        simp only [Array.getElem_toList] at this
        exact congrArg some this
      simp [Instr.index, asIntOf, run_underlying hu, h2, hb]
    · rename_i cs
      obtain ⟨n, k, h1, h2, h3, v, h4, rfl⟩ := hc
      obtain ⟨e, j, k1, k2, k3, k4, _⟩ := arInt_some h1
      simp only [Rel] at hx
      subst hx
      refine Pure.mk _ _ v ?_ rfl
      have h5 : cs[i.toNat]? = some v := by simpa using h4
      simp [Instr.index, asIntOf, run_underlying k1, h2, h3, part, isAgg, run_underlying k2, sizeOf, typeInfo, k3, k4, h5]
    · exact hc.elim
  · exact hc.elim

theorem pure_extract {i : Nat} {x : AV} {u : Value} {r : Res} (hx : Rel w S β γ o x u) (hc : extractR i x r) : Pure P w S β γ o (Instr.extract u i) r := by
  unfold extractR at hc
  split at hc
  · rename_i x b c
    obtain ⟨y, rfl, hy⟩ := hx
    split at hc
    · subst hc; exact Pure.mk _ _ y (by simp [Instr.extract]) hy
    · subst hc; exact Pure.mk _ _ b (by simp [Instr.extract]) rfl
    · subst hc; exact Pure.mk _ _ c (by simp [Instr.extract]) rfl
    · exact hc.elim
  · exact hc.elim

theorem makeFunc_rel {fn : Fn} {xs cs : List AV} {us vs : List Value} {r : Res} (hx : us.length = xs.length) (hl : vs.length = cs.length) (hcs : ∀ (i : Nat) x u, cs[i]? = some x → vs[i]? = some u → Rel w S β γ o x u)
    (hc : makeFuncR fn xs cs r) : ∃ x, r = rv x ∧ Rel w S β γ o x (.func fn us.toArray vs.toArray) := by
  unfold makeFuncR at hc
  split at hc
  · rename_i f
    have h1 : us = [] := List.eq_nil_of_length_eq_zero hx
    have h2 : vs = [] := List.eq_nil_of_length_eq_zero hl
    subst h1 h2 hc
    exact ⟨_, rfl, rfl⟩
  · rename_i f k
    have h1 : us = [] := List.eq_nil_of_length_eq_zero hx
    subst h1 hc
    match vs, hl with
    | [v], _ =>
      have := hcs 0 _ v rfl rfl
      simp only [Rel] at this
      subst this
      exact ⟨_, rfl, rfl⟩
  · exact hc.elim

theorem run_bin_nil {t : TypeId} {tag : Option Nat} {sz : Nat} {xs : List CV} {u v : Value} (h1 : isNilSl v = true) (h2 : isSlT P t = true) (hx : xs ≠ []) (hr : Rel w S β γ o (.sl tag sz xs) u) (x y : Operand) (op : BinOp) (hop : op = .eql ∨ op = .neq) :
    (eqGuard op t x y u v).run P w = .ok () w ∧ (binOp op t u v).run P w = .ok (.bool (op == .neq)) w := by
  obtain ⟨e, hu⟩ := isSl_some h2
  obtain ⟨ad, n, c, rfl, h3, h4, h5, _⟩ := hr
  have hv : v = .slice none 0 0 := by unfold isNilSl at h1; split at h1 <;> simp_all
  subst hv
  refine ⟨eqGuard_slice .., ?_⟩
  cases ad with
  | none =>
    have := (h5 rfl).1
    subst this
    exact absurd (List.eq_nil_of_length_eq_zero (by rw [h4, Nat.zero_mul])) hx
  | some ad =>
    have hq : ∀ d, (Op.equalIn (d + 1) t (.slice (some ad) n c) (.slice none 0 0)).run P w = .ok false w := fun d => by simp [Op.equalIn, run_underlying hu]
    have hq' : (Op.equal t (.slice (some ad) n c) (.slice none 0 0)).run P w = .ok false w := hq 9999
    rcases hop with rfl | rfl
    · show ((Op.equal t (.slice (some ad) n c) (.slice none 0 0)) >>= fun b => Pure.pure (Value.bool b)).run P w = _
      rw [Sem.run_bind, hq']; rfl
    · show ((Op.equal t (.slice (some ad) n c) (.slice none 0 0)) >>= fun b => Pure.pure (Value.bool !b)).run P w = _
      rw [Sem.run_bind, hq']; rfl

end Abs
end Go.Proofs.YtkdpmjgigknbpaaDoor
