/-
  GE, part 35: jumps back to a label, as rewriting rules.
-/
import Derived.Test.YtgpcjdhlijompaaE34
set_option autoImplicit false
set_option linter.unusedVariables false
set_option linter.unusedSimpArgs false
namespace Go.GE
variable {P : Program} {E : Ev} {f : FuncId} {nt b0 : Nat} {ro : Option Nat} {x b c rest : Code} {st st' st'' : St} {l : Nat} {ks : List Nat}
theorem scope_ret (hx : x = .scope b) (h : codeB P E ⟨f, nt, b0, ro⟩ b st = some (.ret, st')) : codeB P E ⟨f, nt, b0, ro⟩ x st = some (.ret, st') := by
  subst hx; simp only [codeB, h]
theorem scope_goto (hx : x = .scope b) (h : codeB P E ⟨f, nt, b0, ro⟩ b st = some (.goto l, st')) (hf : findLabel b l = some rest) (hk : (ue rest).1 ++ ((P.funcs[f]?).map fun f => f.results.toList.map resT).getD [] = ks) (hs : sweep b0 ⟨keepT ks st'.σ, st'.h, st'.wr⟩ = some st'') :
    codeB P E ⟨f, nt, b0, ro⟩ x st = E.scp ⟨f, nt, b0, ro⟩ b rest st'' := by
  subst hx; subst hk; simp only [codeB, h, hf, hs]
theorem codeS_ret (h : codeB P E ⟨f, nt, b0, ro⟩ c st = some (.ret, st')) : codeS P E ⟨f, nt, b0, ro⟩ b c st = some (.ret, st') := by
  simp only [codeS, h]
theorem codeS_goto (h : codeB P E ⟨f, nt, b0, ro⟩ c st = some (.goto l, st')) (hf : findLabel b l = some rest) (hk : (ue rest).1 ++ ((P.funcs[f]?).map fun f => f.results.toList.map resT).getD [] = ks) (hs : sweep b0 ⟨keepT ks st'.σ, st'.h, st'.wr⟩ = some st'') :
    codeS P E ⟨f, nt, b0, ro⟩ b c st = E.scp ⟨f, nt, b0, ro⟩ b rest st'' := by
  subst hk; simp only [codeS, h, hf, hs]
theorem skip_seq : codeB P E ⟨f, nt, b0, ro⟩ (.seq .skip c) st = codeB P E ⟨f, nt, b0, ro⟩ c st := rfl
end Go.GE
