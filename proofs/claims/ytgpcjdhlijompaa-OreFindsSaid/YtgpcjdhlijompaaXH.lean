/-
  Contracts of functions of the program at the limit evaluator, continued. No condition.
-/
import Derived.Test.YtgpcjdhlijompaaXE
namespace Go.Proofs.Ytgpcjdhlijompaa.ore
open Go.GE
set_option linter.unusedVariables false
set_option linter.unusedSimpArgs false
set_option maxRecDepth 1000000
def costV : Value := .agg ((tabT.map fun n => iv n).toArray)
theorem e49 : (evT Try.prog wk.wtab 1000000).run 49 [] [] = some ⟨costV, [], []⟩ := by kernel_rfl
theorem cost_ren (f : Nat → Option Nat) : renV f dep costV = some costV := by
  show (optAll (renV f 5) (tabT.map fun n => iv n).toArray.toList).map (fun l => Value.agg l.toArray) = some costV
  have : optAll (renV f 5) (tabT.map fun n => iv n) = some (tabT.map fun n => iv n) := optAll_scal (d := 4) (List.all_eq_true.2 fun v hv => by
    obtain ⟨n, _, rfl⟩ := List.mem_map.1 hv; rfl)
  simp only [List.toList_toArray, this]
  rfl
theorem k49 (h : List Blk) : callH LL 49 [] h = some ⟨costV, h, [], []⟩ := by
  have e := L_ev e49
  have hr : reach h 0 reachN [] [] = [] := rfl
  unfold callH
  simp only [List.flatMap_nil, hr, optAll]
  rw [e]
  simp [mergeB, cost_ren, optAll]
theorem cost_at {w h : Nat} (hw : w < 9) (hh : h < 9) : (((tabT.map fun n => iv n).toArray).extract (w * 9) (w * 9 + 9))[h]? = some (iv (tT w h)) := by
  have hl : (tabT.map fun n => iv n).toArray.size = 81 := by decide
  rw [Array.getElem?_extract]
  rw [if_pos (by rw [hl]; omega)]
  rw [List.getElem?_toArray, List.getElem?_map]
  unfold tT
  rw [List.getD_eq_getElem?_getD, List.getElem?_eq_getElem (by have : tabT.length = 81 := by decide
                                                               omega)]
  rfl
theorem k47 (w h : Int) (hp : List Blk) : callH LL 47 [iv w, iv h] hp = some ⟨.bool (decide ((1 ≤ w ∧ w ≤ 8) ∧ (1 ≤ h ∧ h ≤ 8))), hp, [], []⟩ := by
  refine callH_plain (go (by decide) ?_) rfl rfl
  rw [run47 _ _ _ (by simp)]
  by_cases h1 : 1 ≤ w ∧ w ≤ 8
  · by_cases h2 : 1 ≤ h ∧ h ≤ 8
    · simp (disch := first | omega | decide | assumption | simp [scal]) [runOps_nil, runOps_cons, runOpsF_nil, runOpsF_cons, fstS_some, fstF_some, opStep_eq, want_none, oStep_true, oStep_false, fin_pure, fin_read, fin_alloc, fin_write, storeB, wrN, cellV, addWr, o_move, o_assign, o_pick, o_alloc, o_box, o_load, o_store, o_nilCheck, o_bin, o_un, o_extract, o_callV, o_callB, o_callI, callV_f, callV_y, callV_fc, o_makeFunc, partsA, Instr.fill, builtin_len, builtin_max2, bin_add, bin_sub, bin_mul, bin_quo, bin_rem, bin_lss, bin_leq, bin_gtr, bin_geq, bin_eql, bin_neq, un_neg, un_not, opd, opds, optAll, lk, putO, put, has, rep, nbeq, nblt, constOk, isC, ops, sub, cl, cr, co, bodyOf, thenS_normal, thenS_ret, thenS_exit, thenS_goto, afterN_normal, afterN_ret, afterN_exit, afterN_goto, condS_true, condS_false, blockS_normal, blockS_ret, blockS_exit, blockS_goto, loopS_exit, loopS_ret, plainS_some, drawS_some, fpsOk, disj, unord, mem, range', dropTo, enumT, undef, wrap_i64_id, Value.cells, mkCells, ptrTo, scal, cellsAt, rdN, endS_ret, resultsA, Option.bind_some, tupV, finish, reach, reachN, dep, ptrL_eq, ptrL, renL_eq, renL, ptrV_bool, ptrV_int, ptrV_string, ptrV_nilFunc, ptrV_nilIface, ptrV_nilPtr, ptrV_ptr, ptrV_nilSl, ptrV_sl, ptrV_iface, ptrV_agg, ptrV_tuple, ptrV_func, renV_bool, renV_int, renV_string, renV_nilFunc, renV_nilIface, renV_nilPtr, renV_ptr, renV_nilSl, renV_sl, renV_iface, renV_agg, renV_tuple, renV_func, n47_1s, n47_3s, n47_4s, n47_2s, n47_0s, want_some q47_3g2, Try.f47, k36, h1, h2]
    · have h3 : (decide (1 ≤ h) && decide (h ≤ 8)) = false := by simp; omega
      simp (disch := first | omega | decide | assumption | simp [scal]) [runOps_nil, runOps_cons, runOpsF_nil, runOpsF_cons, fstS_some, fstF_some, opStep_eq, want_none, oStep_true, oStep_false, fin_pure, fin_read, fin_alloc, fin_write, storeB, wrN, cellV, addWr, o_move, o_assign, o_pick, o_alloc, o_box, o_load, o_store, o_nilCheck, o_bin, o_un, o_extract, o_callV, o_callB, o_callI, callV_f, callV_y, callV_fc, o_makeFunc, partsA, Instr.fill, builtin_len, builtin_max2, bin_add, bin_sub, bin_mul, bin_quo, bin_rem, bin_lss, bin_leq, bin_gtr, bin_geq, bin_eql, bin_neq, un_neg, un_not, opd, opds, optAll, lk, putO, put, has, rep, nbeq, nblt, constOk, isC, ops, sub, cl, cr, co, bodyOf, thenS_normal, thenS_ret, thenS_exit, thenS_goto, afterN_normal, afterN_ret, afterN_exit, afterN_goto, condS_true, condS_false, blockS_normal, blockS_ret, blockS_exit, blockS_goto, loopS_exit, loopS_ret, plainS_some, drawS_some, fpsOk, disj, unord, mem, range', dropTo, enumT, undef, wrap_i64_id, Value.cells, mkCells, ptrTo, scal, cellsAt, rdN, endS_ret, resultsA, Option.bind_some, tupV, finish, reach, reachN, dep, ptrL_eq, ptrL, renL_eq, renL, ptrV_bool, ptrV_int, ptrV_string, ptrV_nilFunc, ptrV_nilIface, ptrV_nilPtr, ptrV_ptr, ptrV_nilSl, ptrV_sl, ptrV_iface, ptrV_agg, ptrV_tuple, ptrV_func, renV_bool, renV_int, renV_string, renV_nilFunc, renV_nilIface, renV_nilPtr, renV_ptr, renV_nilSl, renV_sl, renV_iface, renV_agg, renV_tuple, renV_func, n47_1s, n47_3s, n47_4s, n47_2s, n47_0s, want_some q47_3g2, Try.f47, k36, h1, h2, h3]
  · have h3 : (decide (1 ≤ w) && decide (w ≤ 8)) = false := by simp; omega
    simp (disch := first | omega | decide | assumption | simp [scal]) [runOps_nil, runOps_cons, runOpsF_nil, runOpsF_cons, fstS_some, fstF_some, opStep_eq, want_none, oStep_true, oStep_false, fin_pure, fin_read, fin_alloc, fin_write, storeB, wrN, cellV, addWr, o_move, o_assign, o_pick, o_alloc, o_box, o_load, o_store, o_nilCheck, o_bin, o_un, o_extract, o_callV, o_callB, o_callI, callV_f, callV_y, callV_fc, o_makeFunc, partsA, Instr.fill, builtin_len, builtin_max2, bin_add, bin_sub, bin_mul, bin_quo, bin_rem, bin_lss, bin_leq, bin_gtr, bin_geq, bin_eql, bin_neq, un_neg, un_not, opd, opds, optAll, lk, putO, put, has, rep, nbeq, nblt, constOk, isC, ops, sub, cl, cr, co, bodyOf, thenS_normal, thenS_ret, thenS_exit, thenS_goto, afterN_normal, afterN_ret, afterN_exit, afterN_goto, condS_true, condS_false, blockS_normal, blockS_ret, blockS_exit, blockS_goto, loopS_exit, loopS_ret, plainS_some, drawS_some, fpsOk, disj, unord, mem, range', dropTo, enumT, undef, wrap_i64_id, Value.cells, mkCells, ptrTo, scal, cellsAt, rdN, endS_ret, resultsA, Option.bind_some, tupV, finish, reach, reachN, dep, ptrL_eq, ptrL, renL_eq, renL, ptrV_bool, ptrV_int, ptrV_string, ptrV_nilFunc, ptrV_nilIface, ptrV_nilPtr, ptrV_ptr, ptrV_nilSl, ptrV_sl, ptrV_iface, ptrV_agg, ptrV_tuple, ptrV_func, renV_bool, renV_int, renV_string, renV_nilFunc, renV_nilIface, renV_nilPtr, renV_ptr, renV_nilSl, renV_sl, renV_iface, renV_agg, renV_tuple, renV_func, n47_1s, n47_3s, n47_4s, n47_2s, n47_0s, want_some q47_3g2, Try.f47, k36, h1, h3]
/-- what 'Cost' answers -/
def cres (w h : Int) : Int × Int := if (1 ≤ w ∧ w ≤ 8) ∧ (1 ≤ h ∧ h ≤ 8) then (tT w.toNat h.toNat, 0) else (0, 1)
theorem k25 (w h : Int) (hp : List Blk) : callH LL 25 [iv w, iv h] hp = some ⟨.tuple #[iv (cres w h).1, iv (cres w h).2], hp, [], []⟩ := by
  refine callH_plain (go (by decide) ?_) rfl rfl
  rw [run25 _ _ _ (by simp)]
  by_cases h1 : 1 ≤ w ∧ w ≤ 8
  · by_cases h2 : 1 ≤ h ∧ h ≤ 8
    · have er : cres w h = (tT w.toNat h.toNat, 0) := by unfold cres; rw [if_pos ⟨h1, h2⟩]
      rw [er]
      obtain ⟨W, rfl⟩ : ∃ k : Nat, w = k := ⟨w.toNat, by omega⟩
      obtain ⟨H, rfl⟩ : ∃ k : Nat, h = k := ⟨h.toNat, by omega⟩
      have a1 := cost_at (w := W) (h := H) (by omega) (by omega)
      have wi : (W : Int) < 9 := by omega
      have hi : (H : Int) < 9 := by omega
      have k := k49
      simp only [costV] at k
      simp only [Int.toNat_natCast]
      generalize (tabT.map fun n => iv n).toArray = cs at *
      simp (disch := first | omega | decide | assumption | simp [scal]) [runOps_nil, runOps_cons, runOpsF_nil, runOpsF_cons, fstS_some, fstF_some, opStep_eq, want_none, oStep_true, oStep_false, fin_pure, fin_read, fin_alloc, fin_write, storeB, wrN, cellV, addWr, o_move, o_assign, o_pick, o_alloc, o_box, o_load, o_store, o_nilCheck, o_bin, o_un, o_extract, o_callV, o_callB, o_callI, callV_f, callV_y, callV_fc, o_makeFunc, partsA, Instr.fill, builtin_len, builtin_max2, bin_add, bin_sub, bin_mul, bin_quo, bin_rem, bin_lss, bin_leq, bin_gtr, bin_geq, bin_eql, bin_neq, un_neg, un_not, opd, opds, optAll, lk, putO, put, has, rep, nbeq, nblt, constOk, isC, ops, sub, cl, cr, co, bodyOf, thenS_normal, thenS_ret, thenS_exit, thenS_goto, afterN_normal, afterN_ret, afterN_exit, afterN_goto, condS_true, condS_false, blockS_normal, blockS_ret, blockS_exit, blockS_goto, loopS_exit, loopS_ret, plainS_some, drawS_some, fpsOk, disj, unord, mem, range', dropTo, enumT, undef, wrap_i64_id, Value.cells, mkCells, ptrTo, scal, cellsAt, rdN, endS_ret, resultsA, Option.bind_some, tupV, finish, reach, reachN, dep, ptrL_eq, ptrL, renL_eq, renL, ptrV_bool, ptrV_int, ptrV_string, ptrV_nilFunc, ptrV_nilIface, ptrV_nilPtr, ptrV_ptr, ptrV_nilSl, ptrV_sl, ptrV_iface, ptrV_agg, ptrV_tuple, ptrV_func, renV_bool, renV_int, renV_string, renV_nilFunc, renV_nilIface, renV_nilPtr, renV_ptr, renV_nilSl, renV_sl, renV_iface, renV_agg, renV_tuple, renV_func, o_index ix_83, o_index ix_82, n25_1s, n25_4s, n25_7s, n25_8s, n25_6s, n25_9s, n25_5s, n25_3s, n25_11s, n25_12s, n25_10s, n25_2s, n25_0s, want_some q25_4g3, Try.f25, k38, k, h1, h2, a1, wi, hi]
    · have er : cres w h = (0, 1) := by unfold cres; rw [if_neg (fun x => h2 x.2)]
      have h3 : (decide (1 ≤ h) && decide (h ≤ 8)) = false := by simp; omega
      rw [er]
      simp (disch := first | omega | decide | assumption | simp [scal]) [runOps_nil, runOps_cons, runOpsF_nil, runOpsF_cons, fstS_some, fstF_some, opStep_eq, want_none, oStep_true, oStep_false, fin_pure, fin_read, fin_alloc, fin_write, storeB, wrN, cellV, addWr, o_move, o_assign, o_pick, o_alloc, o_box, o_load, o_store, o_nilCheck, o_bin, o_un, o_extract, o_callV, o_callB, o_callI, callV_f, callV_y, callV_fc, o_makeFunc, partsA, Instr.fill, builtin_len, builtin_max2, bin_add, bin_sub, bin_mul, bin_quo, bin_rem, bin_lss, bin_leq, bin_gtr, bin_geq, bin_eql, bin_neq, un_neg, un_not, opd, opds, optAll, lk, putO, put, has, rep, nbeq, nblt, constOk, isC, ops, sub, cl, cr, co, bodyOf, thenS_normal, thenS_ret, thenS_exit, thenS_goto, afterN_normal, afterN_ret, afterN_exit, afterN_goto, condS_true, condS_false, blockS_normal, blockS_ret, blockS_exit, blockS_goto, loopS_exit, loopS_ret, plainS_some, drawS_some, fpsOk, disj, unord, mem, range', dropTo, enumT, undef, wrap_i64_id, Value.cells, mkCells, ptrTo, scal, cellsAt, rdN, endS_ret, resultsA, Option.bind_some, tupV, finish, reach, reachN, dep, ptrL_eq, ptrL, renL_eq, renL, ptrV_bool, ptrV_int, ptrV_string, ptrV_nilFunc, ptrV_nilIface, ptrV_nilPtr, ptrV_ptr, ptrV_nilSl, ptrV_sl, ptrV_iface, ptrV_agg, ptrV_tuple, ptrV_func, renV_bool, renV_int, renV_string, renV_nilFunc, renV_nilIface, renV_nilPtr, renV_ptr, renV_nilSl, renV_sl, renV_iface, renV_agg, renV_tuple, renV_func, o_index ix_83, o_index ix_82, n25_1s, n25_4s, n25_7s, n25_8s, n25_6s, n25_9s, n25_5s, n25_3s, n25_11s, n25_12s, n25_10s, n25_2s, n25_0s, want_some q25_4g3, Try.f25, k38, h1, h3]
  · have er : cres w h = (0, 1) := by unfold cres; rw [if_neg (fun x => h1 x.1)]
    have h3 : (decide (1 ≤ w) && decide (w ≤ 8)) = false := by simp; omega
    rw [er]
    simp (disch := first | omega | decide | assumption | simp [scal]) [runOps_nil, runOps_cons, runOpsF_nil, runOpsF_cons, fstS_some, fstF_some, opStep_eq, want_none, oStep_true, oStep_false, fin_pure, fin_read, fin_alloc, fin_write, storeB, wrN, cellV, addWr, o_move, o_assign, o_pick, o_alloc, o_box, o_load, o_store, o_nilCheck, o_bin, o_un, o_extract, o_callV, o_callB, o_callI, callV_f, callV_y, callV_fc, o_makeFunc, partsA, Instr.fill, builtin_len, builtin_max2, bin_add, bin_sub, bin_mul, bin_quo, bin_rem, bin_lss, bin_leq, bin_gtr, bin_geq, bin_eql, bin_neq, un_neg, un_not, opd, opds, optAll, lk, putO, put, has, rep, nbeq, nblt, constOk, isC, ops, sub, cl, cr, co, bodyOf, thenS_normal, thenS_ret, thenS_exit, thenS_goto, afterN_normal, afterN_ret, afterN_exit, afterN_goto, condS_true, condS_false, blockS_normal, blockS_ret, blockS_exit, blockS_goto, loopS_exit, loopS_ret, plainS_some, drawS_some, fpsOk, disj, unord, mem, range', dropTo, enumT, undef, wrap_i64_id, Value.cells, mkCells, ptrTo, scal, cellsAt, rdN, endS_ret, resultsA, Option.bind_some, tupV, finish, reach, reachN, dep, ptrL_eq, ptrL, renL_eq, renL, ptrV_bool, ptrV_int, ptrV_string, ptrV_nilFunc, ptrV_nilIface, ptrV_nilPtr, ptrV_ptr, ptrV_nilSl, ptrV_sl, ptrV_iface, ptrV_agg, ptrV_tuple, ptrV_func, renV_bool, renV_int, renV_string, renV_nilFunc, renV_nilIface, renV_nilPtr, renV_ptr, renV_nilSl, renV_sl, renV_iface, renV_agg, renV_tuple, renV_func, o_index ix_83, o_index ix_82, n25_1s, n25_4s, n25_7s, n25_8s, n25_6s, n25_9s, n25_5s, n25_3s, n25_11s, n25_12s, n25_10s, n25_2s, n25_0s, want_some q25_4g3, Try.f25, k38, h3]
end Go.Proofs.Ytgpcjdhlijompaa.ore

namespace Go.Proofs.Ytgpcjdhlijompaa.ore
open Go.GE
set_option linter.unusedVariables false
set_option linter.unusedSimpArgs false
set_option maxRecDepth 100000
theorem best_all2 : ((List.range 9).all fun W => (List.range 9).all fun H => W == 0 || H == 0 || (match tB W H with
    | some q => decide (1 ≤ q.2) && decide (q.2 < (if q.1 then W else H)) && decide (cst W H q = tT W H)
    | none => true)) = true := by decide +kernel
theorem best_q {W H : Nat} (hW : W < 9) (hH : H < 9) (h1 : 1 ≤ W) (h2 : 1 ≤ H) {q : Ln} (hq : tB W H = some q) : 1 ≤ q.2 ∧ q.2 < (if q.1 then W else H) ∧ cst W H q = tT W H := by
  have := List.all_eq_true.1 (List.all_eq_true.1 best_all2 W (List.mem_range.2 hW)) H (List.mem_range.2 hH)
  simp only [Bool.or_eq_true, beq_iff_eq, hq, Bool.and_eq_true, decide_eq_true_eq] at this
  rcases this with (h | h) | h
  · omega
  · omega
  · exact ⟨h.1.1, h.1.2, h.2⟩
end Go.Proofs.Ytgpcjdhlijompaa.ore

