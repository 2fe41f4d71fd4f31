/-
  GE, part 7: slicing, append.
-/
import Derived.Test.YtkmompbfcgjgmaaE6
set_option autoImplicit false
set_option linter.unusedVariables false
set_option linter.unusedSimpArgs false
namespace Go.GE
variable {P : Program}
section
variable {a : Act} {o : Oper} {V : Nat → Prop} {m : Mp} {σ : Tm} {h : List Blk} {w : World} {r : OR}

theorem bnd_none {y d n : Nat} (hb : bnd none y d = some n) : n = d := by simp [bnd] at hb; exact hb.symm
theorem bnd_some {v : Value} {y d n : Nat} (hb : bnd (some v) y d = some n) : ∃ k i, v = .int k i ∧ 0 ≤ i ∧ i ≤ y ∧ n = i.toNat := by
  simp only [bnd] at hb
  split at hb
  · rename_i i hi
    split at hb
    · rename_i hc
      cases v <;> simp [intOf] at hi
      subst hi
      cases hb
      exact ⟨_, _, rfl, hc.1, hc.2, rfl⟩
    · cases hb
  · cases hb
theorem run_sliceBound {k : IntKind} {i : Int} {y : Nat} {c : BoundsCode} (h0 : 0 ≤ i) (h1 : i ≤ y) : (Instr.sliceBound (.int k i) y c).run P w = .ok i.toNat w := by
  simp only [Instr.sliceBound, asIntOf, Sem.run_bind, Sem.run_pure, Result.andThen_ok]
  rw [if_pos ⟨h0, h1⟩]; rfl
theorem run_sliceBounds {isS : Bool} {l c cc mm hh ll : Nat} {lo hi mx : Option Value} (hm : bnd mx c c = some mm) (hcc : c ≤ cc)
    (hhh : (bndHi hi mx mm l) = some hh) (hl : bnd lo hh 0 = some ll) :
    ∃ m', (Instr.sliceBounds isS l cc lo hi mx).run P w = .ok (ll, hh, m') w ∧ mm ≤ m' ∧ m' ≤ cc ∧ ll ≤ hh ∧ (hh ≤ mm ∨ (hi = none ∧ hh = l ∧ mx = none)) ∧ (mx = none → mm = c) := by
  have hle : ll ≤ hh := by
    cases lo with
    | none => have := bnd_none hl; omega
    | some v => obtain ⟨k, i, rfl, h0, h1, rfl⟩ := bnd_some hl; omega
  cases mx with
  | none =>
    have := bnd_none hm; subst this
    cases hi with
    | none =>
      have := bnd_none (y := mm) hhh; subst this
      refine ⟨cc, ?_, hcc, Nat.le_refl _, hle, .inr ⟨rfl, rfl, rfl⟩, fun _ => rfl⟩
      cases lo with
      | none =>
        have := bnd_none hl; subst this
        simp only [Instr.sliceBounds, Sem.run_bind, Sem.run_pure, Result.andThen_ok]
      | some v =>
        obtain ⟨k3, i3, rfl, j0, j1, rfl⟩ := bnd_some hl
        simp only [Instr.sliceBounds, Sem.run_bind, Sem.run_pure, Result.andThen_ok, Option.isSome_none, Bool.false_eq_true, if_false, run_sliceBound j0 j1]
    | some v =>
      obtain ⟨k, i, rfl, h0, h1, rfl⟩ := bnd_some (d := l) hhh
      refine ⟨cc, ?_, hcc, Nat.le_refl _, hle, .inl (by omega), fun _ => rfl⟩
      cases lo with
      | none =>
        have := bnd_none hl; subst this
        cases isS <;> simp only [Instr.sliceBounds, Sem.run_bind, Sem.run_pure, Result.andThen_ok, if_true, if_false, Bool.false_eq_true, run_sliceBound (P := P) (w := w) (k := k) (y := cc) h0 (by omega)]
      | some v =>
        obtain ⟨k3, i3, rfl, j0, j1, rfl⟩ := bnd_some hl
        cases isS <;> simp only [Instr.sliceBounds, Sem.run_bind, Sem.run_pure, Result.andThen_ok, Option.isSome_none, Bool.false_eq_true, if_false, if_true, run_sliceBound j0 j1, run_sliceBound (P := P) (w := w) (k := k) (y := cc) h0 (by omega)]
  | some v =>
    obtain ⟨k, i, rfl, h0, h1, rfl⟩ := bnd_some hm
    cases hi with
    | none => cases hhh
    | some v2 =>
      obtain ⟨k2, i2, rfl, g0, g1, rfl⟩ := bnd_some (d := l) hhh
      refine ⟨i.toNat, ?_, Nat.le_refl _, by omega, hle, .inl (by omega), fun h => by cases h⟩
      cases lo with
      | none =>
        have := bnd_none hl; subst this
        cases isS <;> simp only [Instr.sliceBounds, Sem.run_bind, Sem.run_pure, Result.andThen_ok, if_true, if_false, Bool.false_eq_true, run_sliceBound g0 g1, run_sliceBound (P := P) (w := w) (k := k) (y := cc) h0 (by omega)]
      | some v =>
        obtain ⟨k3, i3, rfl, j0, j1, rfl⟩ := bnd_some hl
        cases isS <;> simp only [Instr.sliceBounds, Sem.run_bind, Sem.run_pure, Result.andThen_ok, Option.isSome_some, Bool.false_eq_true, if_false, if_true, run_sliceBound j0 j1, run_sliceBound g0 g1, run_sliceBound (P := P) (w := w) (k := k) (y := cc) h0 (by omega)]
/-- an index of a slice expression reads the same on both sides -/
theorem opt_eval {lo : Option Operand} {lov : Option Value} {y d n : Nat} (ho : ∀ x, x ∈ lo.toList → ∀ v, opd σ x = some v → VR m v (a.eval x)) (he : optOpd σ lo = some lov) (hb : bnd lov y d = some n) :
    lo.map a.eval = lov := by
  cases lo with
  | none => simp [optOpd] at he; subst he; rfl
  | some x =>
    simp only [optOpd, Option.map_eq_some_iff] at he
    obtain ⟨v, hv, rfl⟩ := he
    obtain ⟨k, i, rfl, _⟩ := bnd_some hb
    simp only [Option.map_some]
    rw [(ho x (by simp) _ hv).scal_eq rfl]
theorem aop_slice {t : TypeId} {x : Operand} {lo hi mx : Option Operand} (hop : o.op = .slice t x lo hi mx) (hr : HR V m h w) (ho : OpdR m σ a o)
    (he : (match opd σ x, optOpd σ lo, optOpd σ hi, optOpd σ mx with
    | some (.string s), some lo, some hi, some none => match P.underlying t with
      | some .string => match bnd hi s.size s.size with
        | some hh => match bnd lo hh 0 with
          | some ll => pureR h (.string (s.extract ll hh))
          | none => none
        | none => none
      | _ => none
    | some (.slice none 0 0), some lo, some hi, some mx => match P.underlying t with
      | some (.slice e) => match bnd mx 0 0, bndHi hi mx 0 0, bnd lo 0 0, aggSize P e with
        | some _, some _, some _, some _ => pureR h (.slice none 0 0)
        | _, _, _, _ => none
      | _ => none
    | some (.slice (some ⟨b, off, none⟩) l c), some lo, some hi, some mx => match P.underlying t with
      | some (.slice e) => match aggSize P e, bnd mx c c with
        | some s, some m => match bndHi hi mx m l with
          | some hh => match bnd lo hh 0, h[b]? with
            | some ll, some (.cells _ es _ _) => if es = s then some (⟨.slice (some ⟨b, off + ll * s, none⟩) (hh - ll) (m - ll), h, [b], []⟩ : OR) else none
            | _, _ => none
          | none => none
        | _, _ => none
      | _ => none
    | _, _, _, _ => none) = some r) (hrd : ∀ b, b ∈ r.rd → V b) : OpRes P a o V m h w r := by
  have hmem : ∀ y, (y ∈ lo.toList ∨ y ∈ hi.toList ∨ y ∈ mx.toList) → ∀ v, opd σ y = some v → VR m v (a.eval y) := by
    intro y hy v hv
    refine ho y ?_ v hv
    simp only [Op.operands, hop, Array.toList_append, List.mem_append, Option.toList_toArray]
    rcases hy with hy | hy | hy <;> simp [hy]
  split at he
  · rename_i s lov hiv hx h1 h2 h3
    split at he
    · rename_i hu
      split at he
      · rename_i hh hhh
        split at he
        · rename_i ll hll
          simp only [pureR, Option.some.injEq] at he
          subst he
          have e1 := (ho x (by simp [Op.operands, hop]) _ hx).scal_eq rfl
          have e2 := opt_eval (a := a) (fun y hy => hmem y (.inl hy)) h1 hll
          have e3 := opt_eval (a := a) (fun y hy => hmem y (.inr (.inl hy))) h2 hhh
          have e4 : mx = none := by
            cases mx with
            | none => rfl
            | some y => simp only [optOpd, Option.map_eq_some_iff] at h3; obtain ⟨v, _, h⟩ := h3; cases h
          subst e4
          refine .pure' hr (cv := .string (s.extract ll hh)) ?_ (.string _)
          obtain ⟨m', hrun, _⟩ := run_sliceBounds (P := P) (w := w) (isS := false) (l := s.size) (c := s.size) (cc := s.size) (lo := lov) (hi := hiv) (mx := none) (mm := s.size) (by simp [bnd]) (Nat.le_refl _) (by cases hiv <;> exact hhh) hll
          simp only [execOp, hop, Instr.sliceAt, Sem.run_bind, run_underlying' hu, Result.andThen_ok, Instr.slice, e1, e2, e3, Option.map_none, Option.isSome_none, Bool.false_eq_true, if_false, hrun, Sem.run_pure]
        · cases he
      · cases he
    · cases he
  · rename_i lov hiv mxv hx h1 h2 h3
    split at he
    · rename_i e hu
      split at he
      · rename_i mm hh ll es hmm hhh hll hes
        simp only [pureR, Option.some.injEq] at he
        subst he
        have hv := ho x (by simp [Op.operands, hop]) _ hx
        have e2 := opt_eval (a := a) (fun y hy => hmem y (.inl hy)) h1 hll
        have e4 := opt_eval (a := a) (fun y hy => hmem y (.inr (.inr hy))) h3 hmm
        have hmm0 : mm = 0 := by
          cases mxv with
          | none => exact bnd_none hmm
          | some v => obtain ⟨k, i, _, _, g, rfl⟩ := bnd_some hmm; omega
        subst hmm0
        have hhh' : (bndHi hiv mxv 0 0) = some hh := hhh
        have e3 : hi.map a.eval = hiv := by
          cases hiv with
          | none =>
            cases hi with
            | none => rfl
            | some y => simp only [optOpd, Option.map_eq_some_iff] at h2; obtain ⟨v, _, h⟩ := h2; cases h
          | some v => exact opt_eval (a := a) (y := 0) (d := 0) (n := hh) (fun y hy => hmem y (.inr (.inl hy))) h2 (by cases mxv <;> exact hhh')
        have hll0 : ll = 0 ∧ hh = 0 := by
          have : hh = 0 := by
            cases hiv with
            | none => cases mxv with
              | none => exact bnd_none (y := 0) hhh'
              | some _ => cases hhh'
            | some v =>
              have : bnd (some v) 0 0 = some hh := by cases mxv <;> exact hhh'
              obtain ⟨k, i, _, _, g, rfl⟩ := bnd_some this; omega
          refine ⟨?_, this⟩
          cases lov with
          | none => exact bnd_none hll
          | some v => obtain ⟨k, i, _, _, g, rfl⟩ := bnd_some hll; omega
        obtain ⟨rfl, rfl⟩ := hll0
        generalize hc : a.eval x = cx at hv
        cases hv
        refine .pure' hr (cv := .slice none 0 0) ?_ .nilSlice
        obtain ⟨m', hrun, q1, q2, _⟩ := run_sliceBounds (P := P) (w := w) (isS := true) (l := 0) (c := 0) (cc := 0) (lo := lov) (hi := hiv) (mx := mxv) (mm := 0) hmm (Nat.le_refl _) hhh' hll
        have hm0 : m' = 0 := by omega
        subst hm0
        obtain ⟨fi, hfi, _⟩ := aggSize_spec hes
        simp only [execOp, hop, Instr.sliceAt, Sem.run_bind, run_underlying' hu, Result.andThen_ok, Instr.slice, hc, e2, e3, e4, hrun, run_sizeOf' hfi, Sem.run_pure]
        simp
      · cases he
    · cases he
  · rename_i b off l c lov hiv mxv hx h1 h2 h3
    split at he
    · rename_i e hu
      split at he
      · rename_i s mm hs hmm
        split at he
        · rename_i hh hhh
          split at he
          · rename_i ll cs es fl ow hll hb
            split at he
            · rename_i hes
              cases he
              have hinv := vr_slice_inv (ho x (by simp [Op.operands, hop]) _ hx)
              obtain ⟨fi, hfi, rfl⟩ := aggSize_spec hs
              have e2 := opt_eval (a := a) (fun y hy => hmem y (.inl hy)) h1 hll
              have e4 := opt_eval (a := a) (fun y hy => hmem y (.inr (.inr hy))) h3 hmm
              have e3 : hi.map a.eval = hiv := by
                cases hiv with
                | none =>
                  cases hi with
                  | none => rfl
                  | some y => simp only [optOpd, Option.map_eq_some_iff] at h2; obtain ⟨v, _, h⟩ := h2; cases h
                | some v => exact opt_eval (a := a) (y := mm) (d := l) (n := hh) (fun y hy => hmem y (.inr (.inl hy))) h2 (by cases mxv <;> exact hhh)
              rcases hinv with ⟨rfl, rfl, hcv⟩ | ⟨mb, co, cc, hm, g1, g2, g3, g4, hcv⟩
              · obtain ⟨m', hrun, q1, q2, q3, q4, q5⟩ := run_sliceBounds (P := P) (w := w) (isS := true) (l := 0) (c := 0) (cc := 0) (lo := lov) (hi := hiv) (mx := mxv) (mm := mm) hmm (Nat.le_refl _) hhh hll
                have hm0 : m' = 0 := by omega
                subst hm0
                have hll0 : ll = 0 := by
                  rcases q4 with q4 | ⟨_, q4, q6⟩ <;> omega
                have hhh0 : hh = 0 := by
                  rcases q4 with q4 | ⟨_, q4, q6⟩ <;> omega
                have hmm0 : mm = 0 := by omega
                subst hll0; subst hhh0; subst hmm0
                refine .pure' hr (cv := .slice none 0 0) ?_ .nil0
                simp only [execOp, hop, Instr.sliceAt, Sem.run_bind, run_underlying' hu, Result.andThen_ok, Instr.slice, hcv, e2, e3, e4, hrun, run_sizeOf' hfi, Sem.run_pure]
                simp
              obtain ⟨cx, ct, fz, k1, k2, k3, k4, k5, k6⟩ := cells_blk hr (hrd b (by simp)) hm hb
              obtain ⟨m', hrun, q1, q2, q3, q4, q5⟩ := run_sliceBounds (P := P) (w := w) (isS := true) (l := l) (c := c) (cc := cc) (lo := lov) (hi := hiv) (mx := mxv) (mm := mm) hmm g3 hhh hll
              have hmc : mm ≤ c := by
                cases mxv with
                | none => rw [bnd_none hmm]; exact Nat.le_refl _
                | some v => obtain ⟨k, i, _, _, g, rfl⟩ := bnd_some hmm; omega
              have hhm : hh ≤ mm := by
                rcases q4 with q4 | ⟨_, q4, q6⟩
                · exact q4
                · rw [q5 q6, q4]; exact g2
              refine .pure' hr (cv := .slice (some ⟨mb.blk, if m' = ll then co else co + ll * fi.size, none⟩) (hh - ll) (m' - ll)) ?_ ?_
              · simp only [execOp, hop, Instr.sliceAt, Sem.run_bind, run_underlying' hu, Result.andThen_ok, Instr.slice, hcv, e2, e3, e4, hrun, run_sizeOf' hfi, Sem.run_pure]
                by_cases hml : m' = ll
                · simp only [if_pos hml]
                · simp only [if_neg hml, Option.map_some, add_none]
              · refine .slice hm (fun hne => ?_) (by omega) (by omega) (fun hown => ?_)
                · rw [if_neg (by omega), g1 (by omega)]; omega
                · have := g4 hown
                  rw [k3, hes] at this ⊢
                  have hle : m' * fi.size ≤ cc * fi.size := Nat.mul_le_mul_right _ q2
                  split
                  · rename_i e; subst e; simp; omega
                  · rw [Nat.sub_mul]
                    have : ll * fi.size ≤ m' * fi.size := Nat.mul_le_mul_right _ (by omega)
                    omega
            · cases he
          · cases he
        · cases he
      · cases he
    · cases he
  · cases he
end
end Go.GE
