/-
  'OreTurn' IS TRUE, for any two numbers (uint16): contracts of the functions that it calls, and of itself, over the evaluator GE (its soundness: the texts YtgpcjdhlijompaaE0 to YtgpcjdhlijompaaE22); 'works' by the kernel (YtgpcjdhlijompaaWk). No condition.
-/
import Derived.Test.YtgpcjdhlijompaaRows
import Derived.WalkKit
import Derived.ProofKit
import Derived.OpenShut
import Derived.KernelRfl
import Derived.Test.YtgpcjdhlijompaaE22
import Derived.Test.YtgpcjdhlijompaaWk
namespace Go.Proofs.Ytgpcjdhlijompaa.oreTurn
open Go.ChangeShapes Go.WideShapes Go.ChangeAt Go.RowKit
set_option linter.unusedVariables false
set_option linter.unusedSimpArgs false

theorem own : ownKnob Try.prog.godebug = none := by kernel_rfl

section
open Go.GE
set_option maxRecDepth 100000
def C36 (E : Ev) : Prop := ∀ a b c : Int, E.run 36 [.int .i64 a, .int .i64 b, .int .i64 c] [] = some ⟨.bool (decide (a ≤ b) && decide (b ≤ c)), [], []⟩
def turnS (a b : Int) : Int := 1800 - (a - b + 5400) % 3600
def C37 (E : Ev) : Prop := ∀ a b : Int, 0 ≤ a → a < 3600 → 0 ≤ b → b < 3600 → E.run 37 [.int .i64 a, .int .i64 b] [] = some ⟨.int .i64 (turnS a b), [], []⟩
def C15 (E : Ev) : Prop := ∀ a b : Int, 0 ≤ a → a < 3600 → 0 ≤ b → b < 3600 → E.run 15 [.int .i64 a, .int .i64 b] [] = some ⟨if turnS a b = 1800 then .tuple #[.int .i64 0, .int .i64 14] else .tuple #[.int .i64 (turnS a b), .int .i64 0], [], []⟩
theorem c36 (E : Ev) : C36 (Ev.step Try.prog E) := by
  intro a b c
  by_cases h1 : a ≤ b <;> by_cases h2 : b ≤ c <;>
  simp [Ev.step, runB, Try.func36, Try.f36, enumT, codeB, region, optAll, dstOk, nblt, nbeq, runOps, opStep, wantedA, aop, opd, constOk, pureR, putO, put, has, rep, lk, addWr, binA, isC, Op.intCmp, pureOf_pure, pureOf_pure', finish, resultsA, optAll, tupV, reach, reachN, ptrV, renV, dep, h1, h2, undef]
theorem c37 (E : Ev) : C37 (Ev.step Try.prog E) := by
  intro a b h1 h2 h3 h4
  have e : Int.tmod (a - b + 1800 + 3600) 3600 = (a - b + 5400) % 3600 := by
    rw [Int.tmod_eq_emod_of_nonneg (by omega)]; congr 1; omega
  simp (disch := omega) [Ev.step, runB, Try.func37, Try.f37, enumT, codeB, region, optAll, dstOk, nblt, nbeq, runOps, opStep, wantedA, aop, opd, constOk, pureR, putO, put, has, rep, lk, addWr, binA, isC, Op.intCmp, Op.intArith, Op.intDiv, pureOf_pure, pureOf_pure', finish, resultsA, optAll, tupV, reach, reachN, ptrV, renV, dep, undef, wrap_i64_id, e]
  rfl

theorem c15 (E : Ev) (h36 : C36 E) (h37 : C37 E) : C15 (Ev.step Try.prog E) := by
  intro a b h1 h2 h3 h4
  have k36 : ∀ a b c : Int, E.run 36 [.int .i64 a, .int .i64 b, .int .i64 c] [] = some ⟨.bool (decide (a ≤ b) && decide (b ≤ c)), [], []⟩ := h36
  have k37 := h37 a b h1 h2 h3 h4
  have d1 : a ≤ 3599 := by omega
  have d2 : b ≤ 3599 := by omega
  by_cases ht : turnS a b = 1800 <;>
  simp [Ev.step, runB, Try.func15, Try.f15, enumT, codeB, region, optAll, dstOk, nblt, nbeq, runOps, opStep, wantedA, aop, opd, opds, constOk, pureR, putO, put, has, rep, lk, addWr, binA, isC, Op.intCmp, Op.intArith, Op.intDiv, Op.unary, pureOf_pure, pureOf_pure', finish, resultsA, optAll, tupV, reach, reachN, ptrV, renV, dep, undef, callV, callH_scal, ibeq, mergeB_bool, mergeB_int, mergeB_string, mergeB_tuple, mergeB_agg, scal, dropTo, range', k36, k37, h1, h3, d1, d2, ht]

def cl : Code → Code
  | .seq a _ => a | .cond _ a _ => a | .block _ a => a | .loop a => a | .scope a => a | c => c
def cr : Code → Code
  | .seq _ b => b | .cond _ _ b => b | c => c
def co : Code → Array Oper
  | .region _ ops _ => ops | _ => #[]
def bodyOf (f : Func) : Code := f.body.getD .skip
noncomputable def b0 : Code := bodyOf Try.f12
noncomputable def b1 : Code := cr b0
noncomputable def b2 : Code := cr b1
noncomputable def b3 : Code := cr b2
noncomputable def b4 : Code := cr b3
noncomputable def b5 : Code := cr b4
noncomputable def b6 : Code := cr b5
theorem b0_eq : b0 = .seq (cl b0) b1 := by kernel_rfl
theorem b1_eq : b1 = .seq (cl b1) b2 := by kernel_rfl
theorem b2_eq : b2 = .seq (cl b2) b3 := by kernel_rfl
theorem b3_eq : b3 = .seq (cl b3) b4 := by kernel_rfl
theorem b4_eq : b4 = .seq (cl b4) b5 := by kernel_rfl
theorem b5_eq : b5 = .seq (cl b5) b6 := by kernel_rfl
theorem b6_eq : b6 = .ret := by kernel_rfl
theorem body12 : Try.f12.body = some b0 := by kernel_rfl
theorem res12 : Try.f12.results = #[.tmp 4] := by kernel_rfl
theorem nt12 : Try.f12.ntmps = 88 := by kernel_rfl
theorem nm12 : Try.f12.name ≠ "runtime.NumGoroutine" := by decide
theorem seq_step {E : Ev} {cx : Cx} {x a b : Code} {st : St} (h : x = .seq a b) : codeB Try.prog E cx x st = (match codeB Try.prog E cx a st with | some (.normal, st') => codeB Try.prog E cx b st' | r => r) := by subst h; rfl
def C12 (E : Ev) : Prop := ∀ a b : Int, 0 ≤ a → a < 65536 → 0 ≤ b → b < 65536 → E.run 12 [.int .u16 a, .int .u16 b] [] = some ⟨.bool true, [], []⟩
theorem c12 (E : Ev) (h15 : C15 E) (h14 : E.run 14 [] [] = some ⟨.bool true, [], []⟩) : C12 (Ev.step Try.prog E) := by
  intro a b h1 h2 h3 h4
  have ea : Int.tmod a 3600 = a % 3600 := Int.tmod_eq_emod_of_nonneg h1
  have eb : Int.tmod b 3600 = b % 3600 := Int.tmod_eq_emod_of_nonneg h3
  have k1 := h15 (a % 3600) (b % 3600) (by omega) (by omega) (by omega) (by omega)
  have k2 := h15 (b % 3600) (a % 3600) (by omega) (by omega) (by omega) (by omega)
  have hw : ∀ h, callH E 14 [] h = some ⟨.bool true, h, [], []⟩ := fun h => by rw [callH_scal rfl, h14]; exact mergeB_bool
  have ibne : ∀ x y : Int, (x != y) = !decide (x = y) := fun x y => by simp [bne, ibeq]
  have hp : 0 ≤ a % 3600 ∧ a % 3600 < 3600 := by omega
  have hq : 0 ≤ b % 3600 ∧ b % 3600 < 3600 := by omega
  simp only [Ev.step, runB, Try.func12, body12, res12, nt12, enumT]
  rw [if_pos ⟨by simp, nm12⟩]
  by_cases ht : turnS (a % 3600) (b % 3600) = 1800
  · have ht2 : turnS (b % 3600) (a % 3600) = 1800 := by unfold turnS at *; omega
    have f2 : ¬ (a % 3600 = b % 3600) := by unfold turnS at ht; omega
    have f1 : Int.tmod (a % 3600 - b % 3600) 1800 = 0 := by
      have : a % 3600 - b % 3600 = 1800 ∨ a % 3600 - b % 3600 = -1800 := by unfold turnS at ht; omega
      rcases this with h | h <;> rw [h] <;> rfl
    simp only [ht, ht2, if_true] at k1 k2
    clear ht ht2
    rw [seq_step b0_eq]
    simp (disch := first | omega | simp [scal]) [b0, co, cl, cr, bodyOf, Try.f12, codeB, region, optAll, dstOk, nblt, nbeq, runOps, opStep, wantedA, aop, opd, opds, constOk, pureR, putO, put, has, rep, lk, addWr, binA, isC, Op.intCmp, Op.intArith, Op.intDiv, Op.unary, pureOf_pure, pureOf_pure', undef, callV, callH_scal, ibeq, mergeB_bool, mergeB_int, mergeB_string, mergeB_tuple, mergeB_agg, scal, dropTo, range', wrap_i64_id, ea, eb, k1, k2, hw, f1, f2, ibne]
    rw [seq_step b1_eq]
    simp (disch := first | omega | simp [scal]) [b0, b1, co, cl, cr, bodyOf, Try.f12, codeB, region, optAll, dstOk, nblt, nbeq, runOps, opStep, wantedA, aop, opd, opds, constOk, pureR, putO, put, has, rep, lk, addWr, binA, isC, Op.intCmp, Op.intArith, Op.intDiv, Op.unary, pureOf_pure, pureOf_pure', undef, callV, callH_scal, ibeq, mergeB_bool, mergeB_int, mergeB_string, mergeB_tuple, mergeB_agg, scal, dropTo, range', wrap_i64_id, ea, eb, k1, k2, hw, f1, f2, ibne]
    rw [seq_step b2_eq]
    simp (disch := first | omega | simp [scal]) [b0, b1, b2, co, cl, cr, bodyOf, Try.f12, codeB, region, optAll, dstOk, nblt, nbeq, runOps, opStep, wantedA, aop, opd, opds, constOk, pureR, putO, put, has, rep, lk, addWr, binA, isC, Op.intCmp, Op.intArith, Op.intDiv, Op.unary, pureOf_pure, pureOf_pure', undef, callV, callH_scal, ibeq, mergeB_bool, mergeB_int, mergeB_string, mergeB_tuple, mergeB_agg, scal, dropTo, range', wrap_i64_id, ea, eb, k1, k2, hw, f1, f2, ibne]
    rw [seq_step b3_eq]
    simp (disch := first | omega | simp [scal]) [b0, b1, b2, b3, co, cl, cr, bodyOf, Try.f12, codeB, region, optAll, dstOk, nblt, nbeq, runOps, opStep, wantedA, aop, opd, opds, constOk, pureR, putO, put, has, rep, lk, addWr, binA, isC, Op.intCmp, Op.intArith, Op.intDiv, Op.unary, pureOf_pure, pureOf_pure', undef, callV, callH_scal, ibeq, mergeB_bool, mergeB_int, mergeB_string, mergeB_tuple, mergeB_agg, scal, dropTo, range', wrap_i64_id, ea, eb, k1, k2, hw, f1, f2, ibne]
    rw [seq_step b4_eq]
    simp (disch := first | omega | simp [scal]) [b0, b1, b2, b3, b4, co, cl, cr, bodyOf, Try.f12, codeB, region, optAll, dstOk, nblt, nbeq, runOps, opStep, wantedA, aop, opd, opds, constOk, pureR, putO, put, has, rep, lk, addWr, binA, isC, Op.intCmp, Op.intArith, Op.intDiv, Op.unary, pureOf_pure, pureOf_pure', undef, callV, callH_scal, ibeq, mergeB_bool, mergeB_int, mergeB_string, mergeB_tuple, mergeB_agg, scal, dropTo, range', wrap_i64_id, ea, eb, k1, k2, hw, f1, f2, ibne]
    simp [resultsA, optAll, lk, finish, tupV, reach, reachN, ptrV, renV, dep, nbeq, nblt]
  · have ht2 : ¬ turnS (b % 3600) (a % 3600) = 1800 := by unfold turnS at *; omega
    simp only [ht, ht2, if_false] at k1 k2
    have g1 : -1800 < turnS (a % 3600) (b % 3600) := by unfold turnS at *; omega
    have g2 : turnS (a % 3600) (b % 3600) < 1800 := by unfold turnS at *; omega
    have g3 : Int.tmod (a % 3600 + turnS (a % 3600) (b % 3600) - b % 3600) 3600 = 0 := by
      apply Int.tmod_eq_zero_of_dvd
      unfold turnS; omega
    have g4 : turnS (b % 3600) (a % 3600) = -turnS (a % 3600) (b % 3600) := by unfold turnS at *; omega
    rw [g4] at k2
    have hd : Int.tmod (a % 3600 - b % 3600) 1800 = 0 → a % 3600 = b % 3600 := by
      intro h0
      have := Int.dvd_of_tmod_eq_zero h0
      unfold turnS at ht; omega
    have hm : a % 3600 = b % 3600 → turnS (a % 3600) (b % 3600) = 0 := by intro h0; unfold turnS; omega
    clear ht ht2 g4
    generalize turnS (a % 3600) (b % 3600) = m at *
    by_cases f1 : Int.tmod (a % 3600 - b % 3600) 1800 = 0
    · have f2 := hd f1
      have hm0 := hm f2
      subst hm0
      clear hm hd
      rw [Int.neg_zero] at k2
      rw [f2] at k1 k2 ea g3 f1
      rw [seq_step b0_eq]
      simp (disch := first | omega | simp [scal]) [b0, co, cl, cr, bodyOf, Try.f12, codeB, region, optAll, dstOk, nblt, nbeq, runOps, opStep, wantedA, aop, opd, opds, constOk, pureR, putO, put, has, rep, lk, addWr, binA, isC, Op.intCmp, Op.intArith, Op.intDiv, Op.unary, pureOf_pure, pureOf_pure', undef, callV, callH_scal, ibeq, mergeB_bool, mergeB_int, mergeB_string, mergeB_tuple, mergeB_agg, scal, dropTo, range', wrap_i64_id, ea, eb, k1, k2, hw, f1, g1, g2, g3, ibne]
      rw [seq_step b1_eq]
      simp (disch := first | omega | simp [scal]) [b0, b1, co, cl, cr, bodyOf, Try.f12, codeB, region, optAll, dstOk, nblt, nbeq, runOps, opStep, wantedA, aop, opd, opds, constOk, pureR, putO, put, has, rep, lk, addWr, binA, isC, Op.intCmp, Op.intArith, Op.intDiv, Op.unary, pureOf_pure, pureOf_pure', undef, callV, callH_scal, ibeq, mergeB_bool, mergeB_int, mergeB_string, mergeB_tuple, mergeB_agg, scal, dropTo, range', wrap_i64_id, ea, eb, k1, k2, hw, f1, g1, g2, g3, ibne]
      rw [seq_step b2_eq]
      simp (disch := first | omega | simp [scal]) [b0, b1, b2, co, cl, cr, bodyOf, Try.f12, codeB, region, optAll, dstOk, nblt, nbeq, runOps, opStep, wantedA, aop, opd, opds, constOk, pureR, putO, put, has, rep, lk, addWr, binA, isC, Op.intCmp, Op.intArith, Op.intDiv, Op.unary, pureOf_pure, pureOf_pure', undef, callV, callH_scal, ibeq, mergeB_bool, mergeB_int, mergeB_string, mergeB_tuple, mergeB_agg, scal, dropTo, range', wrap_i64_id, ea, eb, k1, k2, hw, f1, g1, g2, g3, ibne]
      rw [seq_step b3_eq]
      simp (disch := first | omega | simp [scal]) [b0, b1, b2, b3, co, cl, cr, bodyOf, Try.f12, codeB, region, optAll, dstOk, nblt, nbeq, runOps, opStep, wantedA, aop, opd, opds, constOk, pureR, putO, put, has, rep, lk, addWr, binA, isC, Op.intCmp, Op.intArith, Op.intDiv, Op.unary, pureOf_pure, pureOf_pure', undef, callV, callH_scal, ibeq, mergeB_bool, mergeB_int, mergeB_string, mergeB_tuple, mergeB_agg, scal, dropTo, range', wrap_i64_id, ea, eb, k1, k2, hw, f1, g1, g2, g3, ibne]
      rw [seq_step b4_eq]
      simp (disch := first | omega | simp [scal]) [b0, b1, b2, b3, b4, co, cl, cr, bodyOf, Try.f12, codeB, region, optAll, dstOk, nblt, nbeq, runOps, opStep, wantedA, aop, opd, opds, constOk, pureR, putO, put, has, rep, lk, addWr, binA, isC, Op.intCmp, Op.intArith, Op.intDiv, Op.unary, pureOf_pure, pureOf_pure', undef, callV, callH_scal, ibeq, mergeB_bool, mergeB_int, mergeB_string, mergeB_tuple, mergeB_agg, scal, dropTo, range', wrap_i64_id, ea, eb, k1, k2, hw, f1, g1, g2, g3, ibne]
      rw [seq_step b5_eq]
      simp (disch := first | omega | simp [scal]) [b0, b1, b2, b3, b4, b5, co, cl, cr, bodyOf, Try.f12, codeB, region, optAll, dstOk, nblt, nbeq, runOps, opStep, wantedA, aop, opd, opds, constOk, pureR, putO, put, has, rep, lk, addWr, binA, isC, Op.intCmp, Op.intArith, Op.intDiv, Op.unary, pureOf_pure, pureOf_pure', undef, callV, callH_scal, ibeq, mergeB_bool, mergeB_int, mergeB_string, mergeB_tuple, mergeB_agg, scal, dropTo, range', wrap_i64_id, ea, eb, k1, k2, hw, f1, g1, g2, g3, ibne]
      rw [b6_eq]
      simp [codeB, resultsA, optAll, lk, finish, tupV, reach, reachN, ptrV, renV, dep, nbeq, nblt]
    · rw [seq_step b0_eq]
      simp (disch := first | omega | simp [scal]) [b0, co, cl, cr, bodyOf, Try.f12, codeB, region, optAll, dstOk, nblt, nbeq, runOps, opStep, wantedA, aop, opd, opds, constOk, pureR, putO, put, has, rep, lk, addWr, binA, isC, Op.intCmp, Op.intArith, Op.intDiv, Op.unary, pureOf_pure, pureOf_pure', undef, callV, callH_scal, ibeq, mergeB_bool, mergeB_int, mergeB_string, mergeB_tuple, mergeB_agg, scal, dropTo, range', wrap_i64_id, ea, eb, k1, k2, hw, f1, g1, g2, g3, ibne]
      rw [seq_step b1_eq]
      simp (disch := first | omega | simp [scal]) [b0, b1, co, cl, cr, bodyOf, Try.f12, codeB, region, optAll, dstOk, nblt, nbeq, runOps, opStep, wantedA, aop, opd, opds, constOk, pureR, putO, put, has, rep, lk, addWr, binA, isC, Op.intCmp, Op.intArith, Op.intDiv, Op.unary, pureOf_pure, pureOf_pure', undef, callV, callH_scal, ibeq, mergeB_bool, mergeB_int, mergeB_string, mergeB_tuple, mergeB_agg, scal, dropTo, range', wrap_i64_id, ea, eb, k1, k2, hw, f1, g1, g2, g3, ibne]
      rw [seq_step b2_eq]
      simp (disch := first | omega | simp [scal]) [b0, b1, b2, co, cl, cr, bodyOf, Try.f12, codeB, region, optAll, dstOk, nblt, nbeq, runOps, opStep, wantedA, aop, opd, opds, constOk, pureR, putO, put, has, rep, lk, addWr, binA, isC, Op.intCmp, Op.intArith, Op.intDiv, Op.unary, pureOf_pure, pureOf_pure', undef, callV, callH_scal, ibeq, mergeB_bool, mergeB_int, mergeB_string, mergeB_tuple, mergeB_agg, scal, dropTo, range', wrap_i64_id, ea, eb, k1, k2, hw, f1, g1, g2, g3, ibne]
      rw [seq_step b3_eq]
      simp (disch := first | omega | simp [scal]) [b0, b1, b2, b3, co, cl, cr, bodyOf, Try.f12, codeB, region, optAll, dstOk, nblt, nbeq, runOps, opStep, wantedA, aop, opd, opds, constOk, pureR, putO, put, has, rep, lk, addWr, binA, isC, Op.intCmp, Op.intArith, Op.intDiv, Op.unary, pureOf_pure, pureOf_pure', undef, callV, callH_scal, ibeq, mergeB_bool, mergeB_int, mergeB_string, mergeB_tuple, mergeB_agg, scal, dropTo, range', wrap_i64_id, ea, eb, k1, k2, hw, f1, g1, g2, g3, ibne]
      rw [seq_step b4_eq]
      simp (disch := first | omega | simp [scal]) [b0, b1, b2, b3, b4, co, cl, cr, bodyOf, Try.f12, codeB, region, optAll, dstOk, nblt, nbeq, runOps, opStep, wantedA, aop, opd, opds, constOk, pureR, putO, put, has, rep, lk, addWr, binA, isC, Op.intCmp, Op.intArith, Op.intDiv, Op.unary, pureOf_pure, pureOf_pure', undef, callV, callH_scal, ibeq, mergeB_bool, mergeB_int, mergeB_string, mergeB_tuple, mergeB_agg, scal, dropTo, range', wrap_i64_id, ea, eb, k1, k2, hw, f1, g1, g2, g3, ibne]
      rw [seq_step b5_eq]
      simp (disch := first | omega | simp [scal]) [b0, b1, b2, b3, b4, b5, co, cl, cr, bodyOf, Try.f12, codeB, region, optAll, dstOk, nblt, nbeq, runOps, opStep, wantedA, aop, opd, opds, constOk, pureR, putO, put, has, rep, lk, addWr, binA, isC, Op.intCmp, Op.intArith, Op.intDiv, Op.unary, pureOf_pure, pureOf_pure', undef, callV, callH_scal, ibeq, mergeB_bool, mergeB_int, mergeB_string, mergeB_tuple, mergeB_agg, scal, dropTo, range', wrap_i64_id, ea, eb, k1, k2, hw, f1, g1, g2, g3, ibne]
      rw [b6_eq]
      simp [codeB, resultsA, optAll, lk, finish, tupV, reach, reachN, ptrV, renV, dep, nbeq, nblt]

theorem step_run (E : Ev) (f : FuncId) (a : List Value) (h : List Blk) : runB Try.prog E f a h = (Ev.step Try.prog E).run f a h := rfl
theorem other {f : FuncId} (hf : (14 : Nat) ≠ f) (a : List Value) (h : List Blk) : wk.wtab f a h = none := tabL_other hf
theorem h36 (n : Nat) : C36 (evT Try.prog wk.wtab (n + 1)) := by
  intro a b c
  rw [evT_succ, stepT_run (other (by decide) _ _), step_run]; exact c36 (evT Try.prog wk.wtab n) a b c
theorem h37 (n : Nat) : C37 (evT Try.prog wk.wtab (n + 1)) := by
  intro a b e1 e2 e3 e4
  rw [evT_succ, stepT_run (other (by decide) _ _), step_run]; exact c37 (evT Try.prog wk.wtab n) a b e1 e2 e3 e4
theorem h15 (n : Nat) : C15 (evT Try.prog wk.wtab (n + 2)) := by
  intro a b e1 e2 e3 e4
  rw [evT_succ, stepT_run (other (by decide) _ _), step_run]; exact c15 (evT Try.prog wk.wtab (n + 1)) (h36 n) (h37 n) a b e1 e2 e3 e4
theorem h14 (n : Nat) : (evT Try.prog wk.wtab n).run 14 [] [] = some ⟨.bool true, [], []⟩ := by
  cases n <;> rfl
theorem h12 (n : Nat) : C12 (evT Try.prog wk.wtab (n + 3)) := by
  intro a b e1 e2 e3 e4
  rw [evT_succ, stepT_run (other (by decide) _ _), step_run]; exact c12 (evT Try.prog wk.wtab (n + 2)) (h15 n) (h14 _) a b e1 e2 e3 e4
end
theorem walk (a0 : Int) (a1 : Int) (w0 : (Lit.int .u16 a0).wf = true) (w1 : (Lit.int .u16 a1).wf = true) (w : World) :
    Calls Try.prog 12 #[.int .u16 a0, .int .u16 a1] w fun e w' => e = .returned (.bool true) ∧ Below w.heap.size w w' := by
  have x0 : 0 ≤ a0 ∧ a0 ≤ 65535 := by simpa [Lit.wf, IntKind.min, IntKind.max, IntKind.signed, IntKind.bits] using w0
  have x1 : 0 ≤ a1 ∧ a1 ≤ 65535 := by simpa [Lit.wf, IntKind.min, IntKind.max, IntKind.signed, IntKind.bits] using w1
  exact GE.calls_tab (P := Try.prog) wk.mixed wk.wtab_ok (h12 0 a0 a1 (by omega) (by omega) (by omega) (by omega)) rfl rfl (GE.hr_nil w) (fun b mb h => by cases h) (GE.VRL.scal (l := [.int .u16 a0, .int .u16 a1]) rfl)

/-! ### THE ROW's STEP: WRITTEN OUT: LEAVE IT -/
set_option maxRecDepth 100000 in
theorem lifted (os : Os) (started : os.Started) (H : Type) (enc : TypeId × Value → H) :
    ReturnsInHanded {} Try.checked os 12 .any (Rows.oreTurnSpec.pre6 enc Try.prog Try.f12 Rows.oreTurnRow.domain false) (Rows.oreTurnSpec.post enc Try.prog Try.f12 false true false false) := by
  refine returnsInHanded_of_change (C := Try.checked) own started (by kernel_rfl) Try.func12
    (ChangeSpec.witness6 (enc := enc) (C := Try.checked) false ⟨#[], #[.int .u16 0, .int .u16 0], []⟩ 8 (by kernel_rfl) (by kernel_rfl) (by kernel_rfl) (by kernel_rfl)) ?_
  intro W base args ds gs before hval0 hW hcnd _
  have hval : ∀ (j : Nat) t v, Try.f12.params[j]? = some t → args[j]? = some v → Value.okWide Try.prog W .any base t v := hval0
  have hW' := hW
  obtain ⟨p, q, hA0, hV, rfl, hfz, hnd⟩ := hW
  have hA : DataW.TrodAll enc Try.prog W 0 (fun _ => true) true Try.f12.params.toList args.toList ds p := hA0
  rw [Try.params12] at hA hval
  obtain ⟨v0, vs0, d0, ds0, p0, q0, hargs, rfl, rfl, h0, r0⟩ := trodAll_cons hA
  obtain ⟨v1, vs1, d1, ds1, p1, q1, rfl, rfl, rfl, h1, r1⟩ := trodAll_cons r0
  obtain ⟨rfl, rfl, rfl⟩ := trodAll_nil r1
  obtain rfl : args = #[v0, v1] := by cases args; simp_all
  obtain ⟨rfl, rfl⟩ := trodVars_none hV
  obtain ⟨a0, rfl, rfl, rfl, w0⟩ := open_int Try.underlying71 (hval 0 71 v0 rfl rfl) h0
  obtain ⟨a1, rfl, rfl, rfl, w1⟩ := open_int Try.underlying71 (hval 1 71 v1 rfl rfl) h1
  clear hA0 hval0
  simp only [List.append_nil] at hW'
  refine (walk a0 a1 w0 w1 W).mono fun e W' ⟨he, hg⟩ => ?_
  subst he
  exact ⟨_, rfl, GE.post_of_below (pa := []) (pv := []) hW' (fun _ _ _ => (trodAll_cons_mk (shut_bool Try.underlying4 _) trodAll_mk0)) (fun sp _ => (trodAll_cons_mk (shut_int Try.underlying71 w0) (trodAll_cons_mk (shut_int Try.underlying71 w1) trodAll_mk0))) (fun _ _ => rfl) rfl
    hg (ok_one (by kernel_rfl) rfl (okWide_bool_mk Try.underlying4 _))⟩

theorem over : Rows.oreTurnRow.holds Try.pinned (OpenSpec.ofChange Rows.oreTurnSpec) :=
  OpenClaim.holds_of_wide 12 Try.f12 rfl rfl rfl rfl rfl rfl rfl ⟨rfl, rfl, rfl, rfl, rfl⟩ rfl rfl rfl rfl rfl (by kernel_rfl) Try.func12 (by kernel_rfl)
    (of_decide_eq_true (by kernel_rfl)) (by unfold Func.isWrapper; first | (rw [if_pos (by decide +kernel)]; kernel_rfl) | (rw [if_neg (by decide +kernel)]; exact ⟨rfl, rfl⟩))
    (fun os started H enc _ => lifted os started H enc)

/-- ████ THE STATEMENT ████ -/
theorem proved : Rows.OreTurnSaid :=
  over
#print axioms proved
end Go.Proofs.Ytgpcjdhlijompaa.oreTurn
