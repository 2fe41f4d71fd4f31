/-
  GE, part 33: temporaries whose tail is not told.
-/
import Derived.Test.YtkmompbfcgjgmaaE32
set_option autoImplicit false
set_option linter.unusedVariables false
set_option linter.unusedSimpArgs false
namespace Go.GE
theorem has_big {m : Nat} : ∀ {τ : Tm}, (τ.all fun p => Nat.blt p.1 m) = true → ∀ t, m ≤ t → has τ t = false := by
  intro τ
  induction τ with
  | nil => intro _ _ _; rfl
  | cons p τ ih =>
    intro h t ht
    obtain ⟨a, v⟩ := p
    simp only [List.all_cons, Bool.and_eq_true, GE.blt_iff] at h
    have : Nat.beq a t = false := GE.beq_false.2 (by have := h.1; omega)
    simp only [has, this, cond_false]
    exact ih h.2 t ht
theorem drop_cons {m : Nat} {p : Nat × Value} {σ : Tm} (h : m ≤ σ.length) : dropTo m (p :: σ) = dropTo m σ := by
  unfold dropTo
  rw [List.length_cons, show σ.length + 1 - m = (σ.length - m) + 1 by omega, List.drop_succ_cons]
theorem drop_self {σ : Tm} {m : Nat} (h : m = σ.length) : dropTo m σ = σ := by
  subst h; unfold dropTo; simp
end Go.GE
