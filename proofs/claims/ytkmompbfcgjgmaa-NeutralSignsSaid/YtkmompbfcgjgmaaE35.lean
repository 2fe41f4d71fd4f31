/-
  GE, part 35: jumps back to a label, as rewriting rules.
-/
import Derived.Test.YtkmompbfcgjgmaaE34
set_option autoImplicit false
set_option linter.unusedVariables false
set_option linter.unusedSimpArgs false
namespace Go.GE
variable {P : Program} {E : Ev} {f : FuncId} {nt b0 : Nat} {ro : Option Nat} {x b c rest : Code} {st st' st'' : St} {l : Nat} {ks : List Nat}
theorem skip_seq : codeB P E ⟨f, nt, b0, ro⟩ (.seq .skip c) st = codeB P E ⟨f, nt, b0, ro⟩ c st := rfl
end Go.GE
