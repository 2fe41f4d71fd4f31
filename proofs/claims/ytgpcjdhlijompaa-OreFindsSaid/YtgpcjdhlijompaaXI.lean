/-
  Contracts of functions of the program at the limit evaluator, continued. No condition.
-/
import Derived.Test.YtgpcjdhlijompaaXG
import Derived.Test.YtgpcjdhlijompaaXH
namespace Go.Proofs.Ytgpcjdhlijompaa.ore
open Go.GE
set_option linter.unusedVariables false
set_option linter.unusedSimpArgs false
set_option maxRecDepth 100000
theorem all54 : ∀ n W H, W + H ≤ n → 1 ≤ W → W ≤ 8 → 1 ≤ H → H ≤ 8 → P54 W H := by
  intro n
  induction n with
  | zero => intro W H h h1; omega
  | succ n ih =>
    intro W H h h1 h2 h3 h4
    exact c54 W H ⟨h1, h2⟩ ⟨h3, h4⟩ fun w h' a b c d e => ih w h' (by omega) a c b d
def S0 : Sz := fun _ _ => false
theorem DC0 : DC S0 := ⟨fun w h w' h' h1 => (by cases h1), fun w h h1 => (by cases h1)⟩
theorem za89 : zeroA Try.prog 89 = some (.agg (planL S0).toArray) := by kernel_rfl
theorem sc89 : (planL S0).all scal = false := by decide +kernel
theorem c48 (W H : Nat) (hW : 1 ≤ W ∧ W ≤ 8) (hH : 1 ≤ H ∧ H ≤ 8) : LL.run 48 [iv W, iv H] [] = some ⟨.pointer (some ⟨0, 0, none⟩), [planB (add S0 W H)], []⟩ := by
  have e := all54 16 W H (by omega) hW.1 hW.2 hH.1 hH.2 0 0 S0 DC0 (by decide) (by omega) (by decide) (by omega)
  have kc : callH LL 54 [bv 0 0 W H, .pointer (some ⟨1, 0, none⟩), .pointer (some ⟨2, 0, none⟩)] [planB S0, .cells [.pointer (some ⟨0, 0, none⟩)] 1 false true, .cells [.func (.func 54) #[] #[.pointer (some ⟨1, 0, none⟩), .pointer (some ⟨2, 0, none⟩)]] 1 false true] =
      some ⟨iv (tT W H), [planB (add S0 W H), .cells [.pointer (some ⟨0, 0, none⟩)] 1 false true, .cells [.func (.func 54) #[] #[.pointer (some ⟨1, 0, none⟩), .pointer (some ⟨2, 0, none⟩)]] 1 false true], [1, 0, 2], if hit S0 W H then [] else [0]⟩ := by
    have hm : ∀ k : Nat, 10 < k → reach [planB S0, .cells [.pointer (some ⟨0, 0, none⟩)] 1 false true, .cells [.func (.func 54) #[] #[.pointer (some ⟨1, 0, none⟩), .pointer (some ⟨2, 0, none⟩)]] 1 false true] 0 k [1, 2] [] = [1, 0, 2] := by
      intro k hk
      obtain ⟨k, rfl⟩ : ∃ j, k = j + 8 := ⟨k - 8, by omega⟩
      have e1 : ptrB (.cells [.pointer (some ⟨0, 0, none⟩)] 1 false true) = [0] := rfl
      have e2 : ptrB (.cells [.func (.func 54) #[] #[.pointer (some ⟨1, 0, none⟩), .pointer (some ⟨2, 0, none⟩)]] 1 false true) = [1, 2] := rfl
      simp [reach, mem, nblt, nbeq, e1, e2, ptrB_plan]
    have f1 : ([bv 0 0 W H, .pointer (some ⟨1, 0, none⟩), .pointer (some ⟨2, 0, none⟩)] : List Value).flatMap (ptrV dep) = [1, 2] := rfl
    have f2 : optAll (renV (idx [1, 0, 2]) dep) [bv 0 0 W H, .pointer (some ⟨1, 0, none⟩), .pointer (some ⟨2, 0, none⟩)] = some [bv 0 0 W H, p0, p2] := rfl
    have r1 : renB (idx [1, 0, 2]) (.cells [.pointer (some ⟨0, 0, none⟩)] 1 false true) = some aB := rfl
    have r2 : renB (idx [1, 0, 2]) (.cells [.func (.func 54) #[] #[.pointer (some ⟨1, 0, none⟩), .pointer (some ⟨2, 0, none⟩)]] 1 false true) = some fB := rfl
    unfold callH
    simp only [f1, hm reachN (by decide), f2]
    simp only [optAll, List.getElem?_cons_zero, List.getElem?_cons_succ, r1, r2, renB_plan, e]
    by_cases hh' : hit S0 W H
    · rw [add_hit DC0 hh']
      simp [hh', mergeB, renV_int, dep, optAll]
    · simp [hh', mergeB, renV_int, dep, optAll, renB_plan]
  refine go (by decide) ?_
  rw [run48 _ _ _ (by simp)]
  simp only [planB] at kc ⊢
  have hwr : (if hit S0 W H then ([] : List Nat) else [0]) = [] ∨ (if hit S0 W H then ([] : List Nat) else [0]) = [0] := by split <;> simp
  generalize (if hit S0 W H then ([] : List Nat) else [0]) = wr at *
  generalize tT W H = T at *
  rcases hwr with rfl | rfl <;>
  simp (disch := first | omega | decide | assumption | simp [scal]) [runOps_nil, runOps_cons, runOpsF_nil, runOpsF_cons, fstS_some, fstF_some, opStep_eq, want_none, oStep_true, oStep_false, fin_pure, fin_read, fin_alloc, fin_write, storeB, wrN, cellV, addWr, o_move, o_assign, o_pick, o_alloc, o_box, o_load, o_store, o_nilCheck, o_bin, o_un, o_extract, o_callV, o_callB, o_callI, callV_f, callV_y, callV_fc, o_makeFunc, partsA, Instr.fill, builtin_len, builtin_max2, bin_add, bin_sub, bin_mul, bin_quo, bin_rem, bin_lss, bin_leq, bin_gtr, bin_geq, bin_eql, bin_neq, un_neg, un_not, opd, opds, optAll, lk, putO, put, has, rep, nbeq, nblt, constOk, isC, ops, sub, cl, cr, co, bodyOf, thenS_normal, thenS_ret, thenS_exit, thenS_goto, afterN_normal, afterN_ret, afterN_exit, afterN_goto, condS_true, condS_false, blockS_normal, blockS_ret, blockS_exit, blockS_goto, loopS_exit, loopS_ret, plainS_some, drawS_some, fpsOk, disj, unord, mem, range', dropTo, enumT, undef, wrap_i64_id, Value.cells, mkCells, ptrTo, scal, cellsAt, rdN, endS_ret, resultsA, Option.bind_some, tupV, finish, reach, reachN, dep, ptrL_eq, ptrL, renL_eq, renL, ptrV_bool, ptrV_int, ptrV_string, ptrV_nilFunc, ptrV_nilIface, ptrV_nilPtr, ptrV_ptr, ptrV_nilSl, ptrV_sl, ptrV_iface, ptrV_agg, ptrV_tuple, ptrV_func, renV_bool, renV_int, renV_string, renV_nilFunc, renV_nilIface, renV_nilPtr, renV_ptr, renV_nilSl, renV_sl, renV_iface, renV_agg, renV_tuple, renV_func, za_90, sz_90, za_79, sz_79, loadA_eq ia_79, za_35, o_build za_35 pl_35, loadA_eq ia_90, n48_1s, n48_3s, n48_5s, n48_7s, n48_9s, n48_11s, n48_12s, n48_10s, n48_8s, n48_6s, n48_4s, n48_2s, n48_0s, Try.f48, za89, pl_89, o_build za89 pl_89, sc89, kc, optAll, ptrB_plan', renB_plan', idx]
end Go.Proofs.Ytgpcjdhlijompaa.ore

namespace Go.Proofs.Ytgpcjdhlijompaa.ore
open Go.GE
set_option linter.unusedVariables false
set_option linter.unusedSimpArgs false
set_option maxRecDepth 100000
theorem k48 (W H : Nat) (hW : 1 ≤ W ∧ W ≤ 8) (hH : 1 ≤ H ∧ H ≤ 8) (h : List Blk) : callH LL 48 [iv W, iv H] h = some ⟨.pointer (some ⟨h.length, 0, none⟩), h ++ [planB (add S0 W H)], [], []⟩ := by
  have e := c48 W H hW hH
  have hr : reach h 0 reachN [] [] = [] := rfl
  have hr2 := ren_plains (f := idx []) (vs := [iv W, iv H]) rfl
  unfold callH
  simp only [ptr_plains (vs := [iv W, iv H]) rfl, hr, hr2]
  simp only [optAll, e]
  simp [mergeB, renV_ptr, dep, nblt, renB_plan, optAll]
theorem add0 {W H : Nat} (hW : 1 ≤ W) (hH : 1 ≤ H) : add S0 W H W H = true ↔ ¬ (W = 1 ∧ H = 1) := by
  simp only [add, S0, Bool.false_or, decide_eq_true_eq]; omega
theorem planT {W H : Nat} (hW : 1 ≤ W ∧ W ≤ 8) (hH : 1 ≤ H ∧ H ≤ 8) : (planL (add S0 W H))[W * 9 + H]? = some (iv (tT W H)) := by
  rw [plan_T (by omega) (by omega)]
  by_cases h : W = 1 ∧ H = 1
  · obtain ⟨rfl, rfl⟩ := h
    have : add S0 1 1 1 1 = false := rfl
    rw [if_neg (by rw [this]; decide)]
    rfl
  · rw [if_pos ((add0 hW.1 hH.1).2 h)]
theorem planBest {W H : Nat} (hW : 1 ≤ W ∧ W ≤ 8) (hH : 1 ≤ H ∧ H ≤ 8) : (planL (add S0 W H))[81 + W * 9 + H]? = some (wv (tB W H)) := by
  rw [plan_B (by omega) (by omega)]
  by_cases h : W = 1 ∧ H = 1
  · obtain ⟨rfl, rfl⟩ := h
    rfl
  · rw [if_pos ((add0 hW.1 hH.1).2 h)]
theorem i3' : ∃ i, Try.prog.info? 3 = some i := ⟨_, rfl⟩
theorem part3' (cs : Array Value) (o : Nat) : partA Try.prog 3 cs o = cs[o]? := by
  obtain ⟨i, hi⟩ := i3'
  simp only [partA, Try.underlying3, hi]
end Go.Proofs.Ytgpcjdhlijompaa.ore

