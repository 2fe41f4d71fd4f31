/-
  polynomials are checked, and signs, cores and chains are, as stated
-/
import Derived.WalkKit
import Derived.ProofKit
import Derived.OpenShut
import Derived.KernelRfl
import Derived.Test.YtkmompbfcgjgmaaNC2
import Derived.Test.YtkmompbfcgjgmaaWk
import Derived.Test.YtkmompbfcgjgmaaE28
namespace Go.Proofs.Ytkmompbfcgjgmaa.neutralSigns
open Go.ChangeShapes Go.WideShapes Go.ChangeAt Go.RowKit
set_option linter.unusedVariables false
set_option linter.unusedSimpArgs false

theorem own : ownKnob Try.prog.godebug = none := by kernel_rfl
section
open Go.GE
set_option maxRecDepth 100000
variable {H : Type} {enc : TypeId × Value → H}
theorem walk {W : World} {base : Nat} {args : Array Value} {ds : List (DataW H)} {p : List MemPlace} (hval : ∀ (j : Nat) t v, Try.f3.params[j]? = some t → args[j]? = some v → Value.okWide Try.prog W .any base t v)
    (hA : DataW.TrodAll enc Try.prog W 0 (fun _ => true) true Try.f3.params.toList args.toList ds p) :
    Calls Try.prog 3 args W fun e w' => e = .returned (.bool true) ∧ Below W.heap.size W w' := by
  rw [Try.params3] at hA hval
  obtain ⟨v0, vs0, d0, ds0, p0, q0, hargs, rfl, rfl, h0, r0⟩ := trodAll_cons hA
  obtain ⟨v1, vs1, d1, ds1, p1, q1, rfl, rfl, rfl, h1, r1⟩ := trodAll_cons r0
  obtain ⟨rfl, rfl, rfl⟩ := trodAll_nil r1
  obtain rfl : args = #[v0, v1] := by cases args; simp_all
  obtain ⟨L, cs, mb, hw, hvr, hP⟩ := nt.open_po (hval 0 22 v0 rfl rfl) h0
  obtain ⟨x, y, rfl⟩ := nt.open_ra (hval 1 24 v1 rfl rfl) h1
  have hws : WinsO W [mb] [.cells cs 1 true false] := .cons' hw .nil
  exact calls_lim (P := Try.prog) wk.mixed (wk.wtab_ok.keep nt.kpT) (nt.c3 L.length hP x y) rfl rfl hws.hr hws.own
    (.cons (hvr _ 0 rfl) (.cons nt.VR_ra .nil))
end

theorem laid : laidOutB Try.prog = true := by kernel_rfl
theorem rows : (Try.f3.params.toList.all fun t => Try.prog.readableRec t && decide (t < Try.prog.types.size)) = true := by kernel_rfl
set_option maxRecDepth 100000 in
theorem lifted (os : Os) (started : os.Started) (H : Type) (enc : TypeId × Value → H) :
    ReturnsInHanded {} Try.checked os 3 .any (Rows.neutralSignsSpec.pre6 enc Try.prog Try.f3 Rows.neutralSignsRow.domain false) (Rows.neutralSignsSpec.post enc Try.prog Try.f3 false true false false) := by
  refine returnsInHanded_of_change (C := Try.checked) own started (by kernel_rfl) Try.func3
    (ChangeSpec.witness6 (enc := enc) (C := Try.checked) false ⟨#[], #[.slice none 0 0, .agg #[.int .i64 0, .int .i64 0]], []⟩ 8 (by kernel_rfl) (by kernel_rfl) (by kernel_rfl) (by kernel_rfl)) ?_
  intro W base args ds gs before hval0 hW hcnd _
  have hval : ∀ (j : Nat) t v, Try.f3.params[j]? = some t → args[j]? = some v → Value.okWide Try.prog W .any base t v := hval0
  have hW' := hW
  obtain ⟨p, q, hA, hV, hpq, hfz, hnd⟩ := hW
  refine (walk (enc := enc) hval hA).mono fun e W' ⟨he, hg⟩ => ?_
  subst he
  refine ⟨_, rfl, GE.row_post hW' rfl (fun ds hd => ?_) hg laid (fun t ht => ?_) rfl Try.underlying4⟩
  · match ds, hd with
    | [_, _], _ => exact ⟨rfl, rfl, rfl⟩
  · have := List.all_eq_true.1 rows t ht
    simp only [Bool.and_eq_true, decide_eq_true_eq] at this
    exact this

theorem over : Rows.neutralSignsRow.holds Try.pinned (OpenSpec.ofChange Rows.neutralSignsSpec) :=
  OpenClaim.holds_of_wide 3 Try.f3 rfl rfl rfl rfl rfl rfl rfl ⟨rfl, rfl, rfl, rfl, rfl⟩ rfl rfl rfl rfl rfl (by kernel_rfl) Try.func3 (by kernel_rfl)
    (of_decide_eq_true (by kernel_rfl)) (by unfold Func.isWrapper; first | (rw [if_pos (by decide +kernel)]; kernel_rfl) | (rw [if_neg (by decide +kernel)]; exact ⟨rfl, rfl⟩))
    (fun os started H enc _ => lifted os started H enc)

/-- THE STATEMENT -/
theorem proved : Rows.NeutralSignsSaid :=
  over
#print axioms proved
end Go.Proofs.Ytkmompbfcgjgmaa.neutralSigns
