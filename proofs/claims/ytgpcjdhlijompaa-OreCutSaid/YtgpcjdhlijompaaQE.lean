/-
  Contracts of functions of the program at the limit evaluator, continued. No condition.
-/
import Derived.Test.YtgpcjdhlijompaaQC
import Derived.Test.YtgpcjdhlijompaaQD
namespace Go.Proofs.Ytgpcjdhlijompaa.ore
open Go.GE
set_option linter.unusedVariables false
set_option linter.unusedSimpArgs false
set_option maxRecDepth 100000
theorem all54 : ∀ n W H, W + H ≤ n → 1 ≤ W → W ≤ 8 → 1 ≤ H → H ≤ 8 → P54 W H := by
  intro n
  induction n with
  | zero => intro W H h h1; omega
  | succ n ih =>
    intro W H h h1 h2 h3 h4
    exact c54 W H ⟨h1, h2⟩ ⟨h3, h4⟩ fun w h' a b c d e => ih w h' (by omega) a c b d
def S0 : Sz := fun _ _ => false
theorem DC0 : DC S0 := ⟨fun w h w' h' h1 => (by cases h1), fun w h h1 => (by cases h1)⟩
theorem za89 : zeroA Try.prog 89 = some (.agg (planL S0).toArray) := by kernel_rfl
theorem sc89 : (planL S0).all scal = false := by decide +kernel
theorem c48 (W H : Nat) (hW : 1 ≤ W ∧ W ≤ 8) (hH : 1 ≤ H ∧ H ≤ 8) : LL.run 48 [iv W, iv H] [] = some ⟨.pointer (some ⟨0, 0, none⟩), [planB (add S0 W H)], []⟩ := by
  have e := all54 16 W H (by omega) hW.1 hW.2 hH.1 hH.2 0 0 S0 DC0 (by decide) (by omega) (by decide) (by omega)
  have kc : callH LL 54 [bv 0 0 W H, .pointer (some ⟨1, 0, none⟩), .pointer (some ⟨2, 0, none⟩)] [planB S0, .cells [.pointer (some ⟨0, 0, none⟩)] 1 false true, .cells [.func (.func 54) #[] #[.pointer (some ⟨1, 0, none⟩), .pointer (some ⟨2, 0, none⟩)]] 1 false true] =
      some ⟨iv (tT W H), [planB (add S0 W H), .cells [.pointer (some ⟨0, 0, none⟩)] 1 false true, .cells [.func (.func 54) #[] #[.pointer (some ⟨1, 0, none⟩), .pointer (some ⟨2, 0, none⟩)]] 1 false true], [1, 0, 2], if hit S0 W H then [] else [0]⟩ := by
    have hm : ∀ k : Nat, 10 < k → reach [planB S0, .cells [.pointer (some ⟨0, 0, none⟩)] 1 false true, .cells [.func (.func 54) #[] #[.pointer (some ⟨1, 0, none⟩), .pointer (some ⟨2, 0, none⟩)]] 1 false true] 0 k [1, 2] [] = [1, 0, 2] := by
      intro k hk
      obtain ⟨k, rfl⟩ : ∃ j, k = j + 8 := ⟨k - 8, by omega⟩
      have e1 : ptrB (.cells [.pointer (some ⟨0, 0, none⟩)] 1 false true) = [0] := rfl
      have e2 : ptrB (.cells [.func (.func 54) #[] #[.pointer (some ⟨1, 0, none⟩), .pointer (some ⟨2, 0, none⟩)]] 1 false true) = [1, 2] := rfl
      simp [reach, mem, nblt, nbeq, e1, e2, ptrB_plan]
    have f1 : ([bv 0 0 W H, .pointer (some ⟨1, 0, none⟩), .pointer (some ⟨2, 0, none⟩)] : List Value).flatMap (ptrV dep) = [1, 2] := rfl
    have f2 : optAll (renV (idx [1, 0, 2]) dep) [bv 0 0 W H, .pointer (some ⟨1, 0, none⟩), .pointer (some ⟨2, 0, none⟩)] = some [bv 0 0 W H, p0, p2] := rfl
    have r1 : renB (idx [1, 0, 2]) (.cells [.pointer (some ⟨0, 0, none⟩)] 1 false true) = some aB := rfl
    have r2 : renB (idx [1, 0, 2]) (.cells [.func (.func 54) #[] #[.pointer (some ⟨1, 0, none⟩), .pointer (some ⟨2, 0, none⟩)]] 1 false true) = some fB := rfl
    unfold callH
    simp only [f1, hm reachN (by decide), f2]
    simp only [optAll, List.getElem?_cons_zero, List.getElem?_cons_succ, r1, r2, renB_plan, e]
    by_cases hh' : hit S0 W H
    · rw [add_hit DC0 hh']
      simp [hh', mergeB, renV_int, dep, optAll]
    · simp [hh', mergeB, renV_int, dep, optAll, renB_plan]
  refine go (by decide) ?_
  rw [run48 _ _ _ (by simp)]
  simp only [planB] at kc ⊢
  have hwr : (if hit S0 W H then ([] : List Nat) else [0]) = [] ∨ (if hit S0 W H then ([] : List Nat) else [0]) = [0] := by split <;> simp
  generalize (if hit S0 W H then ([] : List Nat) else [0]) = wr at *
  generalize tT W H = T at *
  rcases hwr with rfl | rfl <;>
  simp (disch := first | omega | decide | assumption | simp [scal]) [runOps_nil, runOps_cons, runOpsF_nil, runOpsF_cons, fstS_some, fstF_some, opStep_eq, want_none, oStep_true, oStep_false, fin_pure, fin_read, fin_alloc, fin_write, storeB, wrN, cellV, addWr, o_move, o_assign, o_pick, o_alloc, o_box, o_load, o_store, o_nilCheck, o_bin, o_un, o_extract, o_callV, o_callB, o_callI, callV_f, callV_y, callV_fc, o_makeFunc, partsA, Instr.fill, builtin_len, builtin_max2, bin_add, bin_sub, bin_mul, bin_quo, bin_rem, bin_lss, bin_leq, bin_gtr, bin_geq, bin_eql, bin_neq, un_neg, un_not, opd, opds, optAll, lk, putO, put, has, rep, nbeq, nblt, constOk, isC, ops, sub, cl, cr, co, bodyOf, thenS_normal, thenS_ret, thenS_exit, thenS_goto, afterN_normal, afterN_ret, afterN_exit, afterN_goto, condS_true, condS_false, blockS_normal, blockS_ret, blockS_exit, blockS_goto, loopS_exit, loopS_ret, plainS_some, drawS_some, fpsOk, disj, unord, mem, range', dropTo, enumT, undef, wrap_i64_id, Value.cells, mkCells, ptrTo, scal, cellsAt, rdN, endS_ret, resultsA, Option.bind_some, tupV, finish, reach, reachN, dep, ptrL_eq, ptrL, renL_eq, renL, ptrV_bool, ptrV_int, ptrV_string, ptrV_nilFunc, ptrV_nilIface, ptrV_nilPtr, ptrV_ptr, ptrV_nilSl, ptrV_sl, ptrV_iface, ptrV_agg, ptrV_tuple, ptrV_func, renV_bool, renV_int, renV_string, renV_nilFunc, renV_nilIface, renV_nilPtr, renV_ptr, renV_nilSl, renV_sl, renV_iface, renV_agg, renV_tuple, renV_func, za_90, sz_90, za_79, sz_79, loadA_eq ia_79, za_35, o_build za_35 pl_35, loadA_eq ia_90, o_fieldAddr fa_35_2 (by decide), loadA_eq ia_3, o_fieldAddr fa_35_3 (by decide), o_indexAddrA ea_87, o_indexAddrA ea_86, loadA_eq ia_85, o_indexAddrA ea_83, o_indexAddrA ea_82, loadA_eq ia_35, lenA_sl lk_101, o_indexAddrS es_101, sz_35, sz_3, sz_85, o_mkI ii_93, ze_101, o_buildSlice es_101 ze_101 (by decide) ba_101_1, ap_101, builtin_append ni_101, o_mkI ii_94, o_fieldAddr fa_35_0 (by decide), o_fieldAddr fa_35_1 (by decide), za_47, o_build za_47 pl_47, sz_47, za_93, o_tassert ta_93.1 ta_93.2, za_94, o_tassert ta_94.1 ta_94.2, o_index ix_83, o_index ix_82, za_83, sz_83, o_fieldAddr fa_52_0 (by decide), loadA_eq ia_4, o_fieldAddr fa_52_1 (by decide), loadA_eq ia_83, loadA_eq ia_47, n48_1s, n48_3s, n48_5s, n48_7s, n48_9s, n48_11s, n48_12s, n48_10s, n48_8s, n48_6s, n48_4s, n48_2s, n48_0s, Try.f48, za89, pl_89, o_build za89 pl_89, sc89, kc, optAll, ptrB_plan', renB_plan', idx]
end Go.Proofs.Ytgpcjdhlijompaa.ore

namespace Go.Proofs.Ytgpcjdhlijompaa.ore
open Go.GE
set_option linter.unusedVariables false
set_option linter.unusedSimpArgs false
set_option maxRecDepth 100000
theorem k48 (W H : Nat) (hW : 1 ≤ W ∧ W ≤ 8) (hH : 1 ≤ H ∧ H ≤ 8) (h : List Blk) : callH LL 48 [iv W, iv H] h = some ⟨.pointer (some ⟨h.length, 0, none⟩), h ++ [planB (add S0 W H)], [], []⟩ := by
  have e := c48 W H hW hH
  have hr : reach h 0 reachN [] [] = [] := rfl
  have hr2 := ren_plains (f := idx []) (vs := [iv W, iv H]) rfl
  unfold callH
  simp only [ptr_plains (vs := [iv W, iv H]) rfl, hr, hr2]
  simp only [optAll, e]
  simp [mergeB, renV_ptr, dep, nblt, renB_plan, optAll]
theorem add0 {W H : Nat} (hW : 1 ≤ W) (hH : 1 ≤ H) : add S0 W H W H = true ↔ ¬ (W = 1 ∧ H = 1) := by
  simp only [add, S0, Bool.false_or, decide_eq_true_eq]; omega
theorem planT {W H : Nat} (hW : 1 ≤ W ∧ W ≤ 8) (hH : 1 ≤ H ∧ H ≤ 8) : (planL (add S0 W H))[W * 9 + H]? = some (iv (tT W H)) := by
  rw [plan_T (by omega) (by omega)]
  by_cases h : W = 1 ∧ H = 1
  · obtain ⟨rfl, rfl⟩ := h
    have : add S0 1 1 1 1 = false := rfl
    rw [if_neg (by rw [this]; decide)]
    rfl
  · rw [if_pos ((add0 hW.1 hH.1).2 h)]
theorem planBest {W H : Nat} (hW : 1 ≤ W ∧ W ≤ 8) (hH : 1 ≤ H ∧ H ≤ 8) : (planL (add S0 W H))[81 + W * 9 + H]? = some (wv (tB W H)) := by
  rw [plan_B (by omega) (by omega)]
  by_cases h : W = 1 ∧ H = 1
  · obtain ⟨rfl, rfl⟩ := h
    rfl
  · rw [if_pos ((add0 hW.1 hH.1).2 h)]
theorem k24 (w h : Int) (hp : List Blk) : callH LL 24 [iv w, iv h] hp = some ⟨.tuple #[iv (cres w h).1, iv (cres w h).2], hp, [], []⟩ := by
  refine callH_plain (go (by decide) ?_) rfl rfl
  rw [run24 _ _ _ (by simp)]
  have k := k47 w h
  by_cases hv : (1 ≤ w ∧ w ≤ 8) ∧ (1 ≤ h ∧ h ≤ 8)
  · have er : cres w h = (tT w.toNat h.toNat, 0) := by unfold cres; rw [if_pos hv]
    rw [er]
    obtain ⟨h1, h2⟩ := hv
    obtain ⟨W, rfl⟩ : ∃ k : Nat, w = k := ⟨w.toNat, by omega⟩
    obtain ⟨H, rfl⟩ : ∃ k : Nat, h = k := ⟨h.toNat, by omega⟩
    have wi : (W : Int) < 9 := by omega
    have hi : (H : Int) < 9 := by omega
    have k8 := k48 W H (by omega) (by omega)
    have pT := planT (W := W) (H := H) (by omega) (by omega)
    simp only [planB] at k8
    simp only [Int.toNat_natCast]
    generalize planL (add S0 W H) = pl at *
    simp (disch := first | omega | decide | assumption | simp [scal]) [runOps_nil, runOps_cons, runOpsF_nil, runOpsF_cons, fstS_some, fstF_some, opStep_eq, want_none, oStep_true, oStep_false, fin_pure, fin_read, fin_alloc, fin_write, storeB, wrN, cellV, addWr, o_move, o_assign, o_pick, o_alloc, o_box, o_load, o_store, o_nilCheck, o_bin, o_un, o_extract, o_callV, o_callB, o_callI, callV_f, callV_y, callV_fc, o_makeFunc, partsA, Instr.fill, builtin_len, builtin_max2, bin_add, bin_sub, bin_mul, bin_quo, bin_rem, bin_lss, bin_leq, bin_gtr, bin_geq, bin_eql, bin_neq, un_neg, un_not, opd, opds, optAll, lk, putO, put, has, rep, nbeq, nblt, constOk, isC, ops, sub, cl, cr, co, bodyOf, thenS_normal, thenS_ret, thenS_exit, thenS_goto, afterN_normal, afterN_ret, afterN_exit, afterN_goto, condS_true, condS_false, blockS_normal, blockS_ret, blockS_exit, blockS_goto, loopS_exit, loopS_ret, plainS_some, drawS_some, fpsOk, disj, unord, mem, range', dropTo, enumT, undef, wrap_i64_id, Value.cells, mkCells, ptrTo, scal, cellsAt, rdN, endS_ret, resultsA, Option.bind_some, tupV, finish, reach, reachN, dep, ptrL_eq, ptrL, renL_eq, renL, ptrV_bool, ptrV_int, ptrV_string, ptrV_nilFunc, ptrV_nilIface, ptrV_nilPtr, ptrV_ptr, ptrV_nilSl, ptrV_sl, ptrV_iface, ptrV_agg, ptrV_tuple, ptrV_func, renV_bool, renV_int, renV_string, renV_nilFunc, renV_nilIface, renV_nilPtr, renV_ptr, renV_nilSl, renV_sl, renV_iface, renV_agg, renV_tuple, renV_func, za_89, o_build za_89 pl_89, za_90, sz_90, za_79, sz_79, loadA_eq ia_79, za_35, o_build za_35 pl_35, loadA_eq ia_90, o_fieldAddr fa_35_2 (by decide), loadA_eq ia_3, o_fieldAddr fa_35_3 (by decide), o_fieldAddr fa_89_1 (by decide), o_indexAddrA ea_87, o_indexAddrA ea_86, loadA_eq ia_85, o_fieldAddr fa_89_0 (by decide), o_indexAddrA ea_83, o_indexAddrA ea_82, loadA_eq ia_35, lenA_sl lk_101, o_indexAddrS es_101, sz_35, sz_3, sz_85, o_mkI ii_93, ze_101, o_buildSlice es_101 ze_101 (by decide) ba_101_1, ap_101, builtin_append ni_101, o_mkI ii_94, o_fieldAddr fa_35_0 (by decide), o_fieldAddr fa_35_1 (by decide), za_47, o_build za_47 pl_47, sz_47, za_93, o_tassert ta_93.1 ta_93.2, za_94, o_tassert ta_94.1 ta_94.2, o_index ix_83, o_index ix_82, za_83, sz_83, o_fieldAddr fa_52_0 (by decide), loadA_eq ia_4, o_fieldAddr fa_52_1 (by decide), loadA_eq ia_83, loadA_eq ia_47, n24_1s, n24_4s, n24_7s, n24_8s, n24_6s, n24_9s, n24_5s, n24_3s, n24_11s, n24_12s, n24_10s, n24_2s, n24_0s, Try.f24, k, h1, h2, k8, pT, wi, hi]
  · have er : cres w h = (0, 1) := by unfold cres; rw [if_neg hv]
    rw [er]
    simp (disch := first | omega | decide | assumption | simp [scal]) [runOps_nil, runOps_cons, runOpsF_nil, runOpsF_cons, fstS_some, fstF_some, opStep_eq, want_none, oStep_true, oStep_false, fin_pure, fin_read, fin_alloc, fin_write, storeB, wrN, cellV, addWr, o_move, o_assign, o_pick, o_alloc, o_box, o_load, o_store, o_nilCheck, o_bin, o_un, o_extract, o_callV, o_callB, o_callI, callV_f, callV_y, callV_fc, o_makeFunc, partsA, Instr.fill, builtin_len, builtin_max2, bin_add, bin_sub, bin_mul, bin_quo, bin_rem, bin_lss, bin_leq, bin_gtr, bin_geq, bin_eql, bin_neq, un_neg, un_not, opd, opds, optAll, lk, putO, put, has, rep, nbeq, nblt, constOk, isC, ops, sub, cl, cr, co, bodyOf, thenS_normal, thenS_ret, thenS_exit, thenS_goto, afterN_normal, afterN_ret, afterN_exit, afterN_goto, condS_true, condS_false, blockS_normal, blockS_ret, blockS_exit, blockS_goto, loopS_exit, loopS_ret, plainS_some, drawS_some, fpsOk, disj, unord, mem, range', dropTo, enumT, undef, wrap_i64_id, Value.cells, mkCells, ptrTo, scal, cellsAt, rdN, endS_ret, resultsA, Option.bind_some, tupV, finish, reach, reachN, dep, ptrL_eq, ptrL, renL_eq, renL, ptrV_bool, ptrV_int, ptrV_string, ptrV_nilFunc, ptrV_nilIface, ptrV_nilPtr, ptrV_ptr, ptrV_nilSl, ptrV_sl, ptrV_iface, ptrV_agg, ptrV_tuple, ptrV_func, renV_bool, renV_int, renV_string, renV_nilFunc, renV_nilIface, renV_nilPtr, renV_ptr, renV_nilSl, renV_sl, renV_iface, renV_agg, renV_tuple, renV_func, za_89, o_build za_89 pl_89, za_90, sz_90, za_79, sz_79, loadA_eq ia_79, za_35, o_build za_35 pl_35, loadA_eq ia_90, o_fieldAddr fa_35_2 (by decide), loadA_eq ia_3, o_fieldAddr fa_35_3 (by decide), o_fieldAddr fa_89_1 (by decide), o_indexAddrA ea_87, o_indexAddrA ea_86, loadA_eq ia_85, o_fieldAddr fa_89_0 (by decide), o_indexAddrA ea_83, o_indexAddrA ea_82, loadA_eq ia_35, lenA_sl lk_101, o_indexAddrS es_101, sz_35, sz_3, sz_85, o_mkI ii_93, ze_101, o_buildSlice es_101 ze_101 (by decide) ba_101_1, ap_101, builtin_append ni_101, o_mkI ii_94, o_fieldAddr fa_35_0 (by decide), o_fieldAddr fa_35_1 (by decide), za_47, o_build za_47 pl_47, sz_47, za_93, o_tassert ta_93.1 ta_93.2, za_94, o_tassert ta_94.1 ta_94.2, o_index ix_83, o_index ix_82, za_83, sz_83, o_fieldAddr fa_52_0 (by decide), loadA_eq ia_4, o_fieldAddr fa_52_1 (by decide), loadA_eq ia_83, loadA_eq ia_47, n24_1s, n24_4s, n24_7s, n24_8s, n24_6s, n24_9s, n24_5s, n24_3s, n24_11s, n24_12s, n24_10s, n24_2s, n24_0s, Try.f24, k, hv]
/-- what 'Best' answers -/
def bcut (w h : Int) : Bool × Int := if (1 ≤ w ∧ w ≤ 8) ∧ (1 ≤ h ∧ h ≤ 8) then (match tB w.toNat h.toNat with | some q => (q.1, (q.2 : Int)) | none => (false, 0)) else (false, 0)
theorem ren_cut (f : Nat → Option Nat) (c : Bool × Int) (e : Int) : renV f dep (.tuple #[cv c, iv e]) = some (.tuple #[cv c, iv e]) := rfl
theorem k26 (w h : Int) (hp : List Blk) : callH LL 26 [iv w, iv h] hp = some ⟨.tuple #[cv (bcut w h), iv (sres w h)], hp, [], []⟩ := by
  refine callH_pure (go (by decide) ?_) rfl (fun g => ren_cut g _ _)
  rw [run26 _ _ _ (by simp)]
  have k := k47 w h
  by_cases hv : (1 ≤ w ∧ w ≤ 8) ∧ (1 ≤ h ∧ h ≤ 8)
  · unfold bcut sres
    rw [if_pos hv, if_pos hv]
    obtain ⟨h1, h2⟩ := hv
    obtain ⟨W, rfl⟩ : ∃ k : Nat, w = k := ⟨w.toNat, by omega⟩
    obtain ⟨H, rfl⟩ : ∃ k : Nat, h = k := ⟨h.toNat, by omega⟩
    have wi : (W : Int) < 9 := by omega
    have hi : (H : Int) < 9 := by omega
    have k8 := k48 W H (by omega) (by omega)
    have pB := planBest (W := W) (H := H) (by omega) (by omega)
    have bT := (best_T (W := W) (H := H) (by omega) (by omega) (by omega) (by omega)).2
    simp only [planB] at k8
    simp only [Int.toNat_natCast]
    generalize planL (add S0 W H) = pl at *
    cases hq : tB W H with
    | none =>
      obtain ⟨e1, e2⟩ := bT.1 hq
      have e3 : (W : Int) = 1 ∧ (H : Int) = 1 := by omega
      rw [hq] at pB
      simp only [wv] at pB
      rw [if_pos e3]
      simp (disch := first | omega | decide | assumption | simp [scal]) [runOps_nil, runOps_cons, runOpsF_nil, runOpsF_cons, fstS_some, fstF_some, opStep_eq, want_none, oStep_true, oStep_false, fin_pure, fin_read, fin_alloc, fin_write, storeB, wrN, cellV, addWr, o_move, o_assign, o_pick, o_alloc, o_box, o_load, o_store, o_nilCheck, o_bin, o_un, o_extract, o_callV, o_callB, o_callI, callV_f, callV_y, callV_fc, o_makeFunc, partsA, Instr.fill, builtin_len, builtin_max2, bin_add, bin_sub, bin_mul, bin_quo, bin_rem, bin_lss, bin_leq, bin_gtr, bin_geq, bin_eql, bin_neq, un_neg, un_not, opd, opds, optAll, lk, putO, put, has, rep, nbeq, nblt, constOk, isC, ops, sub, cl, cr, co, bodyOf, thenS_normal, thenS_ret, thenS_exit, thenS_goto, afterN_normal, afterN_ret, afterN_exit, afterN_goto, condS_true, condS_false, blockS_normal, blockS_ret, blockS_exit, blockS_goto, loopS_exit, loopS_ret, plainS_some, drawS_some, fpsOk, disj, unord, mem, range', dropTo, enumT, undef, wrap_i64_id, Value.cells, mkCells, ptrTo, scal, cellsAt, rdN, endS_ret, resultsA, Option.bind_some, tupV, finish, reach, reachN, dep, ptrL_eq, ptrL, renL_eq, renL, ptrV_bool, ptrV_int, ptrV_string, ptrV_nilFunc, ptrV_nilIface, ptrV_nilPtr, ptrV_ptr, ptrV_nilSl, ptrV_sl, ptrV_iface, ptrV_agg, ptrV_tuple, ptrV_func, renV_bool, renV_int, renV_string, renV_nilFunc, renV_nilIface, renV_nilPtr, renV_ptr, renV_nilSl, renV_sl, renV_iface, renV_agg, renV_tuple, renV_func, za_89, o_build za_89 pl_89, za_90, sz_90, za_79, sz_79, loadA_eq ia_79, za_35, o_build za_35 pl_35, loadA_eq ia_90, o_fieldAddr fa_35_2 (by decide), loadA_eq ia_3, o_fieldAddr fa_35_3 (by decide), o_fieldAddr fa_89_1 (by decide), o_indexAddrA ea_87, o_indexAddrA ea_86, loadA_eq ia_85, o_fieldAddr fa_89_0 (by decide), o_indexAddrA ea_83, o_indexAddrA ea_82, loadA_eq ia_35, lenA_sl lk_101, o_indexAddrS es_101, sz_35, sz_3, sz_85, o_mkI ii_93, ze_101, o_buildSlice es_101 ze_101 (by decide) ba_101_1, ap_101, builtin_append ni_101, o_mkI ii_94, o_fieldAddr fa_35_0 (by decide), o_fieldAddr fa_35_1 (by decide), za_47, o_build za_47 pl_47, sz_47, za_93, o_tassert ta_93.1 ta_93.2, za_94, o_tassert ta_94.1 ta_94.2, o_index ix_83, o_index ix_82, za_83, sz_83, o_fieldAddr fa_52_0 (by decide), loadA_eq ia_4, o_fieldAddr fa_52_1 (by decide), loadA_eq ia_83, loadA_eq ia_47, n26_1s, n26_4s, n26_7s, n26_8s, n26_6s, n26_9s, n26_5s, n26_3s, n26_12s, n26_15s, n26_18s, n26_20s, n26_21s, n26_19s, n26_17s, n26_23s, n26_26s, n26_28s, n26_29s, n26_27s, n26_25s, n26_30s, n26_24s, n26_22s, n26_16s, n26_14s, n26_13s, n26_11s, n26_32s, n26_33s, n26_31s, n26_10s, n26_2s, n26_0s, Try.f26, k, h1, h2, k8, pB, wi, hi]
    | some q =>
      have e3 : ¬ ((W : Int) = 1 ∧ (H : Int) = 1) := fun e => by
        have := bT.2 ⟨by omega, by omega⟩
        unfold tB at hq
        rw [this] at hq; cases hq
      rw [hq] at pB
      rw [if_neg e3]
      obtain ⟨tag, m⟩ := q
      cases tag
      · simp only [wv, lv_f] at pB
        simp (disch := first | omega | decide | assumption | simp [scal]) [runOps_nil, runOps_cons, runOpsF_nil, runOpsF_cons, fstS_some, fstF_some, opStep_eq, want_none, oStep_true, oStep_false, fin_pure, fin_read, fin_alloc, fin_write, storeB, wrN, cellV, addWr, o_move, o_assign, o_pick, o_alloc, o_box, o_load, o_store, o_nilCheck, o_bin, o_un, o_extract, o_callV, o_callB, o_callI, callV_f, callV_y, callV_fc, o_makeFunc, partsA, Instr.fill, builtin_len, builtin_max2, bin_add, bin_sub, bin_mul, bin_quo, bin_rem, bin_lss, bin_leq, bin_gtr, bin_geq, bin_eql, bin_neq, un_neg, un_not, opd, opds, optAll, lk, putO, put, has, rep, nbeq, nblt, constOk, isC, ops, sub, cl, cr, co, bodyOf, thenS_normal, thenS_ret, thenS_exit, thenS_goto, afterN_normal, afterN_ret, afterN_exit, afterN_goto, condS_true, condS_false, blockS_normal, blockS_ret, blockS_exit, blockS_goto, loopS_exit, loopS_ret, plainS_some, drawS_some, fpsOk, disj, unord, mem, range', dropTo, enumT, undef, wrap_i64_id, Value.cells, mkCells, ptrTo, scal, cellsAt, rdN, endS_ret, resultsA, Option.bind_some, tupV, finish, reach, reachN, dep, ptrL_eq, ptrL, renL_eq, renL, ptrV_bool, ptrV_int, ptrV_string, ptrV_nilFunc, ptrV_nilIface, ptrV_nilPtr, ptrV_ptr, ptrV_nilSl, ptrV_sl, ptrV_iface, ptrV_agg, ptrV_tuple, ptrV_func, renV_bool, renV_int, renV_string, renV_nilFunc, renV_nilIface, renV_nilPtr, renV_ptr, renV_nilSl, renV_sl, renV_iface, renV_agg, renV_tuple, renV_func, za_89, o_build za_89 pl_89, za_90, sz_90, za_79, sz_79, loadA_eq ia_79, za_35, o_build za_35 pl_35, loadA_eq ia_90, o_fieldAddr fa_35_2 (by decide), loadA_eq ia_3, o_fieldAddr fa_35_3 (by decide), o_fieldAddr fa_89_1 (by decide), o_indexAddrA ea_87, o_indexAddrA ea_86, loadA_eq ia_85, o_fieldAddr fa_89_0 (by decide), o_indexAddrA ea_83, o_indexAddrA ea_82, loadA_eq ia_35, lenA_sl lk_101, o_indexAddrS es_101, sz_35, sz_3, sz_85, o_mkI ii_93, ze_101, o_buildSlice es_101 ze_101 (by decide) ba_101_1, ap_101, builtin_append ni_101, o_mkI ii_94, o_fieldAddr fa_35_0 (by decide), o_fieldAddr fa_35_1 (by decide), za_47, o_build za_47 pl_47, sz_47, za_93, o_tassert ta_93.1 ta_93.2, za_94, o_tassert ta_94.1 ta_94.2, o_index ix_83, o_index ix_82, za_83, sz_83, o_fieldAddr fa_52_0 (by decide), loadA_eq ia_4, o_fieldAddr fa_52_1 (by decide), loadA_eq ia_83, loadA_eq ia_47, n26_1s, n26_4s, n26_7s, n26_8s, n26_6s, n26_9s, n26_5s, n26_3s, n26_12s, n26_15s, n26_18s, n26_20s, n26_21s, n26_19s, n26_17s, n26_23s, n26_26s, n26_28s, n26_29s, n26_27s, n26_25s, n26_30s, n26_24s, n26_22s, n26_16s, n26_14s, n26_13s, n26_11s, n26_32s, n26_33s, n26_31s, n26_10s, n26_2s, n26_0s, Try.f26, k, h1, h2, k8, pB, wi, hi]
      · simp only [wv, lv_t] at pB
        simp (disch := first | omega | decide | assumption | simp [scal]) [runOps_nil, runOps_cons, runOpsF_nil, runOpsF_cons, fstS_some, fstF_some, opStep_eq, want_none, oStep_true, oStep_false, fin_pure, fin_read, fin_alloc, fin_write, storeB, wrN, cellV, addWr, o_move, o_assign, o_pick, o_alloc, o_box, o_load, o_store, o_nilCheck, o_bin, o_un, o_extract, o_callV, o_callB, o_callI, callV_f, callV_y, callV_fc, o_makeFunc, partsA, Instr.fill, builtin_len, builtin_max2, bin_add, bin_sub, bin_mul, bin_quo, bin_rem, bin_lss, bin_leq, bin_gtr, bin_geq, bin_eql, bin_neq, un_neg, un_not, opd, opds, optAll, lk, putO, put, has, rep, nbeq, nblt, constOk, isC, ops, sub, cl, cr, co, bodyOf, thenS_normal, thenS_ret, thenS_exit, thenS_goto, afterN_normal, afterN_ret, afterN_exit, afterN_goto, condS_true, condS_false, blockS_normal, blockS_ret, blockS_exit, blockS_goto, loopS_exit, loopS_ret, plainS_some, drawS_some, fpsOk, disj, unord, mem, range', dropTo, enumT, undef, wrap_i64_id, Value.cells, mkCells, ptrTo, scal, cellsAt, rdN, endS_ret, resultsA, Option.bind_some, tupV, finish, reach, reachN, dep, ptrL_eq, ptrL, renL_eq, renL, ptrV_bool, ptrV_int, ptrV_string, ptrV_nilFunc, ptrV_nilIface, ptrV_nilPtr, ptrV_ptr, ptrV_nilSl, ptrV_sl, ptrV_iface, ptrV_agg, ptrV_tuple, ptrV_func, renV_bool, renV_int, renV_string, renV_nilFunc, renV_nilIface, renV_nilPtr, renV_ptr, renV_nilSl, renV_sl, renV_iface, renV_agg, renV_tuple, renV_func, za_89, o_build za_89 pl_89, za_90, sz_90, za_79, sz_79, loadA_eq ia_79, za_35, o_build za_35 pl_35, loadA_eq ia_90, o_fieldAddr fa_35_2 (by decide), loadA_eq ia_3, o_fieldAddr fa_35_3 (by decide), o_fieldAddr fa_89_1 (by decide), o_indexAddrA ea_87, o_indexAddrA ea_86, loadA_eq ia_85, o_fieldAddr fa_89_0 (by decide), o_indexAddrA ea_83, o_indexAddrA ea_82, loadA_eq ia_35, lenA_sl lk_101, o_indexAddrS es_101, sz_35, sz_3, sz_85, o_mkI ii_93, ze_101, o_buildSlice es_101 ze_101 (by decide) ba_101_1, ap_101, builtin_append ni_101, o_mkI ii_94, o_fieldAddr fa_35_0 (by decide), o_fieldAddr fa_35_1 (by decide), za_47, o_build za_47 pl_47, sz_47, za_93, o_tassert ta_93.1 ta_93.2, za_94, o_tassert ta_94.1 ta_94.2, o_index ix_83, o_index ix_82, za_83, sz_83, o_fieldAddr fa_52_0 (by decide), loadA_eq ia_4, o_fieldAddr fa_52_1 (by decide), loadA_eq ia_83, loadA_eq ia_47, n26_1s, n26_4s, n26_7s, n26_8s, n26_6s, n26_9s, n26_5s, n26_3s, n26_12s, n26_15s, n26_18s, n26_20s, n26_21s, n26_19s, n26_17s, n26_23s, n26_26s, n26_28s, n26_29s, n26_27s, n26_25s, n26_30s, n26_24s, n26_22s, n26_16s, n26_14s, n26_13s, n26_11s, n26_32s, n26_33s, n26_31s, n26_10s, n26_2s, n26_0s, Try.f26, k, h1, h2, k8, pB, wi, hi]
  · unfold bcut sres
    rw [if_neg hv, if_neg hv]
    simp (disch := first | omega | decide | assumption | simp [scal]) [runOps_nil, runOps_cons, runOpsF_nil, runOpsF_cons, fstS_some, fstF_some, opStep_eq, want_none, oStep_true, oStep_false, fin_pure, fin_read, fin_alloc, fin_write, storeB, wrN, cellV, addWr, o_move, o_assign, o_pick, o_alloc, o_box, o_load, o_store, o_nilCheck, o_bin, o_un, o_extract, o_callV, o_callB, o_callI, callV_f, callV_y, callV_fc, o_makeFunc, partsA, Instr.fill, builtin_len, builtin_max2, bin_add, bin_sub, bin_mul, bin_quo, bin_rem, bin_lss, bin_leq, bin_gtr, bin_geq, bin_eql, bin_neq, un_neg, un_not, opd, opds, optAll, lk, putO, put, has, rep, nbeq, nblt, constOk, isC, ops, sub, cl, cr, co, bodyOf, thenS_normal, thenS_ret, thenS_exit, thenS_goto, afterN_normal, afterN_ret, afterN_exit, afterN_goto, condS_true, condS_false, blockS_normal, blockS_ret, blockS_exit, blockS_goto, loopS_exit, loopS_ret, plainS_some, drawS_some, fpsOk, disj, unord, mem, range', dropTo, enumT, undef, wrap_i64_id, Value.cells, mkCells, ptrTo, scal, cellsAt, rdN, endS_ret, resultsA, Option.bind_some, tupV, finish, reach, reachN, dep, ptrL_eq, ptrL, renL_eq, renL, ptrV_bool, ptrV_int, ptrV_string, ptrV_nilFunc, ptrV_nilIface, ptrV_nilPtr, ptrV_ptr, ptrV_nilSl, ptrV_sl, ptrV_iface, ptrV_agg, ptrV_tuple, ptrV_func, renV_bool, renV_int, renV_string, renV_nilFunc, renV_nilIface, renV_nilPtr, renV_ptr, renV_nilSl, renV_sl, renV_iface, renV_agg, renV_tuple, renV_func, za_89, o_build za_89 pl_89, za_90, sz_90, za_79, sz_79, loadA_eq ia_79, za_35, o_build za_35 pl_35, loadA_eq ia_90, o_fieldAddr fa_35_2 (by decide), loadA_eq ia_3, o_fieldAddr fa_35_3 (by decide), o_fieldAddr fa_89_1 (by decide), o_indexAddrA ea_87, o_indexAddrA ea_86, loadA_eq ia_85, o_fieldAddr fa_89_0 (by decide), o_indexAddrA ea_83, o_indexAddrA ea_82, loadA_eq ia_35, lenA_sl lk_101, o_indexAddrS es_101, sz_35, sz_3, sz_85, o_mkI ii_93, ze_101, o_buildSlice es_101 ze_101 (by decide) ba_101_1, ap_101, builtin_append ni_101, o_mkI ii_94, o_fieldAddr fa_35_0 (by decide), o_fieldAddr fa_35_1 (by decide), za_47, o_build za_47 pl_47, sz_47, za_93, o_tassert ta_93.1 ta_93.2, za_94, o_tassert ta_94.1 ta_94.2, o_index ix_83, o_index ix_82, za_83, sz_83, o_fieldAddr fa_52_0 (by decide), loadA_eq ia_4, o_fieldAddr fa_52_1 (by decide), loadA_eq ia_83, loadA_eq ia_47, n26_1s, n26_4s, n26_7s, n26_8s, n26_6s, n26_9s, n26_5s, n26_3s, n26_12s, n26_15s, n26_18s, n26_20s, n26_21s, n26_19s, n26_17s, n26_23s, n26_26s, n26_28s, n26_29s, n26_27s, n26_25s, n26_30s, n26_24s, n26_22s, n26_16s, n26_14s, n26_13s, n26_11s, n26_32s, n26_33s, n26_31s, n26_10s, n26_2s, n26_0s, Try.f26, k, hv]
theorem g47 : Try.prog.eqGuardType Try.prog.depth 47 = false := by kernel_rfl
theorem s47 : Try.prog.stoodInHeld 47 = false := by kernel_rfl
theorem i3' : ∃ i, Try.prog.info? 3 = some i := ⟨_, rfl⟩
theorem i4' : ∃ i, Try.prog.info? 4 = some i := ⟨_, rfl⟩
theorem part3' (cs : Array Value) (o : Nat) : partA Try.prog 3 cs o = cs[o]? := by
  obtain ⟨i, hi⟩ := i3'
  simp only [partA, Try.underlying3, hi]
theorem part4' (cs : Array Value) (o : Nat) : partA Try.prog 4 cs o = cs[o]? := by
  obtain ⟨i, hi⟩ := i4'
  simp only [partA, Try.underlying4, hi]
theorem eq47 {cst : Bool} (a : Bool) (b : Int) : binA Try.prog .eql 47 cst (.agg #[.bool a, iv b]) (.agg #[.bool a, iv b]) = some (.bool true) := by
  simp [binA, g47, eqA, Try.underlying47, s47, eqFs, part3', part4', Try.underlying3, Try.underlying4]
theorem c5 (w h : Int) : LL.run 5 [iv w, iv h] [] = some ⟨.bool true, [], []⟩ := by
  refine go (by decide) ?_
  rw [run5 _ _ _ (by simp)]
  have a1 := k24 w h
  have a2 := k25 w h
  have a3 := k26 w h
  have a4 := k27 w h
  have k14' : ∀ hp, callH LL 14 [] hp = some ⟨.bool true, hp, [], []⟩ := fun hp => callH_plain (L_tab rfl) rfl rfl
  by_cases hv : (1 ≤ w ∧ w ≤ 8) ∧ (1 ≤ h ∧ h ≤ 8)
  · by_cases h11 : w = 1 ∧ h = 1
    · have e1 : sres w h = 22 := by unfold sres; rw [if_pos hv, if_pos h11]
      have e2 : bcut w h = (false, 0) := by obtain ⟨rfl, rfl⟩ := h11; rfl
      rw [e1] at a3 a4
      rw [e2] at a3
      generalize cres w h = C at *
      simp (disch := first | omega | decide | assumption | simp [scal]) [runOps_nil, runOps_cons, runOpsF_nil, runOpsF_cons, fstS_some, fstF_some, opStep_eq, want_none, oStep_true, oStep_false, fin_pure, fin_read, fin_alloc, fin_write, storeB, wrN, cellV, addWr, o_move, o_assign, o_pick, o_alloc, o_box, o_load, o_store, o_nilCheck, o_bin, o_un, o_extract, o_callV, o_callB, o_callI, callV_f, callV_y, callV_fc, o_makeFunc, partsA, Instr.fill, builtin_len, builtin_max2, bin_add, bin_sub, bin_mul, bin_quo, bin_rem, bin_lss, bin_leq, bin_gtr, bin_geq, bin_eql, bin_neq, un_neg, un_not, opd, opds, optAll, lk, putO, put, has, rep, nbeq, nblt, constOk, isC, ops, sub, cl, cr, co, bodyOf, thenS_normal, thenS_ret, thenS_exit, thenS_goto, afterN_normal, afterN_ret, afterN_exit, afterN_goto, condS_true, condS_false, blockS_normal, blockS_ret, blockS_exit, blockS_goto, loopS_exit, loopS_ret, plainS_some, drawS_some, fpsOk, disj, unord, mem, range', dropTo, enumT, undef, wrap_i64_id, Value.cells, mkCells, ptrTo, scal, cellsAt, rdN, endS_ret, resultsA, Option.bind_some, tupV, finish, reach, reachN, dep, ptrL_eq, ptrL, renL_eq, renL, ptrV_bool, ptrV_int, ptrV_string, ptrV_nilFunc, ptrV_nilIface, ptrV_nilPtr, ptrV_ptr, ptrV_nilSl, ptrV_sl, ptrV_iface, ptrV_agg, ptrV_tuple, ptrV_func, renV_bool, renV_int, renV_string, renV_nilFunc, renV_nilIface, renV_nilPtr, renV_ptr, renV_nilSl, renV_sl, renV_iface, renV_agg, renV_tuple, renV_func, za_89, o_build za_89 pl_89, za_90, sz_90, za_79, sz_79, loadA_eq ia_79, za_35, o_build za_35 pl_35, loadA_eq ia_90, o_fieldAddr fa_35_2 (by decide), loadA_eq ia_3, o_fieldAddr fa_35_3 (by decide), o_fieldAddr fa_89_1 (by decide), o_indexAddrA ea_87, o_indexAddrA ea_86, loadA_eq ia_85, o_fieldAddr fa_89_0 (by decide), o_indexAddrA ea_83, o_indexAddrA ea_82, loadA_eq ia_35, lenA_sl lk_101, o_indexAddrS es_101, sz_35, sz_3, sz_85, o_mkI ii_93, ze_101, o_buildSlice es_101 ze_101 (by decide) ba_101_1, ap_101, builtin_append ni_101, o_mkI ii_94, o_fieldAddr fa_35_0 (by decide), o_fieldAddr fa_35_1 (by decide), za_47, o_build za_47 pl_47, sz_47, za_93, o_tassert ta_93.1 ta_93.2, za_94, o_tassert ta_94.1 ta_94.2, o_index ix_83, o_index ix_82, za_83, sz_83, o_fieldAddr fa_52_0 (by decide), loadA_eq ia_4, o_fieldAddr fa_52_1 (by decide), loadA_eq ia_83, loadA_eq ia_47, n5_1s, n5_3s, n5_5s, n5_7s, n5_10s, n5_13s, n5_14s, n5_12s, n5_15s, n5_11s, n5_9s, n5_18s, n5_21s, n5_22s, n5_20s, n5_23s, n5_19s, n5_17s, n5_25s, n5_26s, n5_24s, n5_16s, n5_8s, n5_6s, n5_4s, n5_2s, n5_0s, want_some q5_10g3, want_some q5_10g8, want_some q5_21g3, want_some q5_25g4, Try.f5, a1, a2, a3, a4, k14', eq47]
    · have e1 : sres w h = 0 := by unfold sres; rw [if_pos hv, if_neg h11]
      obtain ⟨h1, h2⟩ := hv
      obtain ⟨W, rfl⟩ : ∃ k : Nat, w = k := ⟨w.toNat, by omega⟩
      obtain ⟨H, rfl⟩ : ∃ k : Nat, h = k := ⟨h.toNat, by omega⟩
      have bT := (best_T (W := W) (H := H) (by omega) (by omega) (by omega) (by omega)).2
      obtain ⟨q, hq⟩ := Option.ne_none_iff_exists'.1 (fun e : tB W H = none => h11 (by have := bT.1 e; omega))
      have e2 : bcut W H = (q.1, (q.2 : Int)) := by unfold bcut; rw [if_pos ⟨h1, h2⟩]; simp only [Int.toNat_natCast, hq]
      have a5 := k28 W H (by omega) (by omega) hq
      rw [e1] at a3 a4
      rw [e2] at a3
      generalize cres W H = C at *
      simp (disch := first | omega | decide | assumption | simp [scal]) [runOps_nil, runOps_cons, runOpsF_nil, runOpsF_cons, fstS_some, fstF_some, opStep_eq, want_none, oStep_true, oStep_false, fin_pure, fin_read, fin_alloc, fin_write, storeB, wrN, cellV, addWr, o_move, o_assign, o_pick, o_alloc, o_box, o_load, o_store, o_nilCheck, o_bin, o_un, o_extract, o_callV, o_callB, o_callI, callV_f, callV_y, callV_fc, o_makeFunc, partsA, Instr.fill, builtin_len, builtin_max2, bin_add, bin_sub, bin_mul, bin_quo, bin_rem, bin_lss, bin_leq, bin_gtr, bin_geq, bin_eql, bin_neq, un_neg, un_not, opd, opds, optAll, lk, putO, put, has, rep, nbeq, nblt, constOk, isC, ops, sub, cl, cr, co, bodyOf, thenS_normal, thenS_ret, thenS_exit, thenS_goto, afterN_normal, afterN_ret, afterN_exit, afterN_goto, condS_true, condS_false, blockS_normal, blockS_ret, blockS_exit, blockS_goto, loopS_exit, loopS_ret, plainS_some, drawS_some, fpsOk, disj, unord, mem, range', dropTo, enumT, undef, wrap_i64_id, Value.cells, mkCells, ptrTo, scal, cellsAt, rdN, endS_ret, resultsA, Option.bind_some, tupV, finish, reach, reachN, dep, ptrL_eq, ptrL, renL_eq, renL, ptrV_bool, ptrV_int, ptrV_string, ptrV_nilFunc, ptrV_nilIface, ptrV_nilPtr, ptrV_ptr, ptrV_nilSl, ptrV_sl, ptrV_iface, ptrV_agg, ptrV_tuple, ptrV_func, renV_bool, renV_int, renV_string, renV_nilFunc, renV_nilIface, renV_nilPtr, renV_ptr, renV_nilSl, renV_sl, renV_iface, renV_agg, renV_tuple, renV_func, za_89, o_build za_89 pl_89, za_90, sz_90, za_79, sz_79, loadA_eq ia_79, za_35, o_build za_35 pl_35, loadA_eq ia_90, o_fieldAddr fa_35_2 (by decide), loadA_eq ia_3, o_fieldAddr fa_35_3 (by decide), o_fieldAddr fa_89_1 (by decide), o_indexAddrA ea_87, o_indexAddrA ea_86, loadA_eq ia_85, o_fieldAddr fa_89_0 (by decide), o_indexAddrA ea_83, o_indexAddrA ea_82, loadA_eq ia_35, lenA_sl lk_101, o_indexAddrS es_101, sz_35, sz_3, sz_85, o_mkI ii_93, ze_101, o_buildSlice es_101 ze_101 (by decide) ba_101_1, ap_101, builtin_append ni_101, o_mkI ii_94, o_fieldAddr fa_35_0 (by decide), o_fieldAddr fa_35_1 (by decide), za_47, o_build za_47 pl_47, sz_47, za_93, o_tassert ta_93.1 ta_93.2, za_94, o_tassert ta_94.1 ta_94.2, o_index ix_83, o_index ix_82, za_83, sz_83, o_fieldAddr fa_52_0 (by decide), loadA_eq ia_4, o_fieldAddr fa_52_1 (by decide), loadA_eq ia_83, loadA_eq ia_47, n5_1s, n5_3s, n5_5s, n5_7s, n5_10s, n5_13s, n5_14s, n5_12s, n5_15s, n5_11s, n5_9s, n5_18s, n5_21s, n5_22s, n5_20s, n5_23s, n5_19s, n5_17s, n5_25s, n5_26s, n5_24s, n5_16s, n5_8s, n5_6s, n5_4s, n5_2s, n5_0s, want_some q5_10g3, want_some q5_10g8, want_some q5_21g3, want_some q5_25g4, Try.f5, a1, a2, a3, a4, a5, k14']
  · have e1 : sres w h = 1 := by unfold sres; rw [if_neg hv]
    have e2 : bcut w h = (false, 0) := by unfold bcut; rw [if_neg hv]
    rw [e1] at a3 a4
    rw [e2] at a3
    generalize cres w h = C at *
    simp (disch := first | omega | decide | assumption | simp [scal]) [runOps_nil, runOps_cons, runOpsF_nil, runOpsF_cons, fstS_some, fstF_some, opStep_eq, want_none, oStep_true, oStep_false, fin_pure, fin_read, fin_alloc, fin_write, storeB, wrN, cellV, addWr, o_move, o_assign, o_pick, o_alloc, o_box, o_load, o_store, o_nilCheck, o_bin, o_un, o_extract, o_callV, o_callB, o_callI, callV_f, callV_y, callV_fc, o_makeFunc, partsA, Instr.fill, builtin_len, builtin_max2, bin_add, bin_sub, bin_mul, bin_quo, bin_rem, bin_lss, bin_leq, bin_gtr, bin_geq, bin_eql, bin_neq, un_neg, un_not, opd, opds, optAll, lk, putO, put, has, rep, nbeq, nblt, constOk, isC, ops, sub, cl, cr, co, bodyOf, thenS_normal, thenS_ret, thenS_exit, thenS_goto, afterN_normal, afterN_ret, afterN_exit, afterN_goto, condS_true, condS_false, blockS_normal, blockS_ret, blockS_exit, blockS_goto, loopS_exit, loopS_ret, plainS_some, drawS_some, fpsOk, disj, unord, mem, range', dropTo, enumT, undef, wrap_i64_id, Value.cells, mkCells, ptrTo, scal, cellsAt, rdN, endS_ret, resultsA, Option.bind_some, tupV, finish, reach, reachN, dep, ptrL_eq, ptrL, renL_eq, renL, ptrV_bool, ptrV_int, ptrV_string, ptrV_nilFunc, ptrV_nilIface, ptrV_nilPtr, ptrV_ptr, ptrV_nilSl, ptrV_sl, ptrV_iface, ptrV_agg, ptrV_tuple, ptrV_func, renV_bool, renV_int, renV_string, renV_nilFunc, renV_nilIface, renV_nilPtr, renV_ptr, renV_nilSl, renV_sl, renV_iface, renV_agg, renV_tuple, renV_func, za_89, o_build za_89 pl_89, za_90, sz_90, za_79, sz_79, loadA_eq ia_79, za_35, o_build za_35 pl_35, loadA_eq ia_90, o_fieldAddr fa_35_2 (by decide), loadA_eq ia_3, o_fieldAddr fa_35_3 (by decide), o_fieldAddr fa_89_1 (by decide), o_indexAddrA ea_87, o_indexAddrA ea_86, loadA_eq ia_85, o_fieldAddr fa_89_0 (by decide), o_indexAddrA ea_83, o_indexAddrA ea_82, loadA_eq ia_35, lenA_sl lk_101, o_indexAddrS es_101, sz_35, sz_3, sz_85, o_mkI ii_93, ze_101, o_buildSlice es_101 ze_101 (by decide) ba_101_1, ap_101, builtin_append ni_101, o_mkI ii_94, o_fieldAddr fa_35_0 (by decide), o_fieldAddr fa_35_1 (by decide), za_47, o_build za_47 pl_47, sz_47, za_93, o_tassert ta_93.1 ta_93.2, za_94, o_tassert ta_94.1 ta_94.2, o_index ix_83, o_index ix_82, za_83, sz_83, o_fieldAddr fa_52_0 (by decide), loadA_eq ia_4, o_fieldAddr fa_52_1 (by decide), loadA_eq ia_83, loadA_eq ia_47, n5_1s, n5_3s, n5_5s, n5_7s, n5_10s, n5_13s, n5_14s, n5_12s, n5_15s, n5_11s, n5_9s, n5_18s, n5_21s, n5_22s, n5_20s, n5_23s, n5_19s, n5_17s, n5_25s, n5_26s, n5_24s, n5_16s, n5_8s, n5_6s, n5_4s, n5_2s, n5_0s, want_some q5_10g3, want_some q5_10g8, want_some q5_21g3, want_some q5_25g4, Try.f5, a1, a2, a3, a4, k14', eq47]
end Go.Proofs.Ytgpcjdhlijompaa.ore

