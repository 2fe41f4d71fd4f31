/-
  RankChances is true of all months and numbers: the law is run, for any arguments, over the evaluator GE. No condition.
-/
import Derived.WalkKit
import Derived.ProofKit
import Derived.OpenShut
import Derived.KernelRfl
import Derived.Test.YtfccmddkblbeoaaRD2
import Derived.Test.YtfccmddkblbeoaaWk
import Derived.Test.YtfccmddkblbeoaaE28
namespace Go.Proofs.Ytfccmddkblbeoaa.rankChances
open Go.ChangeShapes Go.WideShapes Go.ChangeAt Go.RowKit
set_option linter.unusedVariables false
set_option linter.unusedSimpArgs false

theorem own : ownKnob Try.prog.godebug = none := by kernel_rfl
section
open Go.GE
set_option maxRecDepth 100000
variable {H : Type} {enc : TypeId × Value → H}
theorem walk {W : World} {base : Nat} {args : Array Value} {ds : List (DataW H)} {p : List MemPlace} (hval : ∀ (j : Nat) t v, Try.f5.params[j]? = some t → args[j]? = some v → Value.okWide Try.prog W .any base t v)
    (hA : DataW.TrodAll enc Try.prog W 0 (fun _ => true) true Try.f5.params.toList args.toList ds p) :
    Calls Try.prog 5 args W fun e w' => e = .returned (.bool true) ∧ Below W.heap.size W w' := by
  rw [Try.params5] at hA hval
  obtain ⟨v0, vs0, d0, ds0, p0, q0, hargs, rfl, rfl, h0, r0⟩ := trodAll_cons hA
  obtain ⟨v1, vs1, d1, ds1, p1, q1, rfl, rfl, rfl, h1, r1⟩ := trodAll_cons r0
  obtain ⟨v2, vs2, d2, ds2, p2, q2, rfl, rfl, rfl, h2, r2⟩ := trodAll_cons r1
  obtain ⟨v3, vs3, d3, ds3, p3, q3, rfl, rfl, rfl, h3, r3⟩ := trodAll_cons r2
  obtain ⟨rfl, rfl, rfl⟩ := trodAll_nil r3
  obtain rfl : args = #[v0, v1, v2, v3] := by cases args; simp_all
  obtain ⟨zs, mb, hw, hvr, hP⟩ := rk.open_spans (hval 0 22 v0 rfl rfl) h0
  obtain ⟨x, rfl⟩ := rk.open_i (hval 1 3 v1 rfl rfl) h1
  obtain ⟨y, rfl⟩ := rk.open_i (hval 2 3 v2 rfl rfl) h2
  obtain ⟨z, rfl⟩ := rk.open_i (hval 3 3 v3 rfl rfl) h3
  have hws : WinsO W [mb] [.cells (zs.flatMap (ints [.i64, .i64])) 2 true false] := .cons' hw .nil
  exact calls_lim (P := Try.prog) wk.mixed (wk.wtab_ok.keep rk.kpT) (rk.c5 0 zs.length zs.length x y z hP) rfl rfl hws.hr hws.own
    (.cons (hvr _ 0 rfl) (.cons (.int _ _) (.cons (.int _ _) (.cons (.int _ _) .nil))))
end

theorem laid : laidOutB Try.prog = true := by kernel_rfl
theorem rows : (Try.f5.params.toList.all fun t => Try.prog.readableRec t && decide (t < Try.prog.types.size)) = true := by kernel_rfl
set_option maxRecDepth 100000 in
theorem lifted (os : Os) (started : os.Started) (H : Type) (enc : TypeId × Value → H) :
    ReturnsInHanded {} Try.checked os 5 .any (Rows.rankChancesSpec.pre6 enc Try.prog Try.f5 Rows.rankChancesRow.domain false) (Rows.rankChancesSpec.post enc Try.prog Try.f5 false true false false) := by
  refine returnsInHanded_of_change (C := Try.checked) own started (by kernel_rfl) Try.func5
    (ChangeSpec.witness6 (enc := enc) (C := Try.checked) false ⟨#[], #[.slice none 0 0, .int .i64 0, .int .i64 0, .int .i64 0], []⟩ 8 (by kernel_rfl) (by kernel_rfl) (by kernel_rfl) (by kernel_rfl)) ?_
  intro W base args ds gs before hval0 hW hcnd _
  have hval : ∀ (j : Nat) t v, Try.f5.params[j]? = some t → args[j]? = some v → Value.okWide Try.prog W .any base t v := hval0
  have hW' := hW
  obtain ⟨p, q, hA, hV, hpq, hfz, hnd⟩ := hW
  refine (walk (enc := enc) hval hA).mono fun e W' ⟨he, hg⟩ => ?_
  subst he
  refine ⟨_, rfl, GE.row_post hW' rfl (fun ds hd => ?_) hg laid (fun t ht => ?_) rfl Try.underlying4⟩
  · match ds, hd with
    | [_, _, _, _], _ => exact ⟨rfl, rfl, rfl⟩
  · have := List.all_eq_true.1 rows t ht
    simp only [Bool.and_eq_true, decide_eq_true_eq] at this
    exact this

theorem over : Rows.rankChancesRow.holds Try.pinned (OpenSpec.ofChange Rows.rankChancesSpec) :=
  OpenClaim.holds_of_wide 5 Try.f5 rfl rfl rfl rfl rfl rfl rfl ⟨rfl, rfl, rfl, rfl, rfl⟩ rfl rfl rfl rfl rfl (by kernel_rfl) Try.func5 (by kernel_rfl)
    (of_decide_eq_true (by kernel_rfl)) (by unfold Func.isWrapper; first | (rw [if_pos (by decide +kernel)]; kernel_rfl) | (rw [if_neg (by decide +kernel)]; exact ⟨rfl, rfl⟩))
    (fun os started H enc _ => lifted os started H enc)

/-- THE STATEMENT -/
theorem proved : Rows.RankChancesSaid :=
  over
#print axioms proved
end Go.Proofs.Ytfccmddkblbeoaa.rankChances
