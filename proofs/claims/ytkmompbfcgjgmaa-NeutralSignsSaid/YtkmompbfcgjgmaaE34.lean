/-
  GE, part 34: conversions of integers as a rewriting rule.
-/
import Derived.Test.YtkmompbfcgjgmaaE33
set_option autoImplicit false
set_option linter.unusedVariables false
set_option linter.unusedSimpArgs false
namespace Go.GE
variable {P : Program} {E : Ev} {σ : Tm} {h : List Blk} {d : Option Nat} {ty : TypeId} {pos : String} {af : Array Edge} {g : Option (Nat × Bool)}
theorem o_convI {s t : TypeId} {x : Operand} {k : IntKind} (hk : convK P s t = some k) : aop P E σ h ⟨d, .convert s t x, ty, pos, af, g⟩ = (match opd σ x with
    | some (.int _ n) => pureR h (.int k (k.wrap n))
    | _ => none) := by
  unfold convK at hk
  split at hk
  · rename_i u k' e1 e2
    cases hk
    simp only [aop, e1, e2]
    cases opd σ x with
    | none => cases u <;> rfl
    | some v => cases v <;> (cases u <;> rfl)
  · cases hk
end Go.GE
