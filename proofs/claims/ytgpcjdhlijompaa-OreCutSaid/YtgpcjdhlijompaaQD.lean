/-
  Contracts of functions of the program at the limit evaluator, continued. No condition.
-/
import Derived.Test.YtgpcjdhlijompaaE33
import Derived.Test.YtgpcjdhlijompaaQA
namespace Go.Proofs.Ytgpcjdhlijompaa.ore
open Go.GE
set_option linter.unusedVariables false
set_option linter.unusedSimpArgs false
set_option maxRecDepth 1000000
def costV : Value := .agg ((tabT.map fun n => iv n).toArray)
theorem e49 : (evT Try.prog wk.wtab 1000000).run 49 [] [] = some ⟨costV, [], []⟩ := by kernel_rfl
theorem cost_ren (f : Nat → Option Nat) : renV f dep costV = some costV := by
  show (optAll (renV f 5) (tabT.map fun n => iv n).toArray.toList).map (fun l => Value.agg l.toArray) = some costV
  have : optAll (renV f 5) (tabT.map fun n => iv n) = some (tabT.map fun n => iv n) := optAll_scal (d := 4) (List.all_eq_true.2 fun v hv => by
    obtain ⟨n, _, rfl⟩ := List.mem_map.1 hv; rfl)
  simp only [List.toList_toArray, this]
  rfl
theorem k49 (h : List Blk) : callH LL 49 [] h = some ⟨costV, h, [], []⟩ := by
  have e := L_ev e49
  have hr : reach h 0 reachN [] [] = [] := rfl
  unfold callH
  simp only [List.flatMap_nil, hr, optAll]
  rw [e]
  simp [mergeB, cost_ren, optAll]
theorem cost_at {w h : Nat} (hw : w < 9) (hh : h < 9) : (((tabT.map fun n => iv n).toArray).extract (w * 9) (w * 9 + 9))[h]? = some (iv (tT w h)) := by
  have hl : (tabT.map fun n => iv n).toArray.size = 81 := by decide
  rw [Array.getElem?_extract]
  rw [if_pos (by rw [hl]; omega)]
  rw [List.getElem?_toArray, List.getElem?_map]
  unfold tT
  rw [List.getD_eq_getElem?_getD, List.getElem?_eq_getElem (by have : tabT.length = 81 := by decide
                                                               omega)]
  rfl
theorem k47 (w h : Int) (hp : List Blk) : callH LL 47 [iv w, iv h] hp = some ⟨.bool (decide ((1 ≤ w ∧ w ≤ 8) ∧ (1 ≤ h ∧ h ≤ 8))), hp, [], []⟩ := by
  refine callH_plain (go (by decide) ?_) rfl rfl
  rw [run47 _ _ _ (by simp)]
  by_cases h1 : 1 ≤ w ∧ w ≤ 8
  · by_cases h2 : 1 ≤ h ∧ h ≤ 8
    · simp (disch := first | omega | decide | assumption | simp [scal]) [runOps_nil, runOps_cons, runOpsF_nil, runOpsF_cons, fstS_some, fstF_some, opStep_eq, want_none, oStep_true, oStep_false, fin_pure, fin_read, fin_alloc, fin_write, storeB, wrN, cellV, addWr, o_move, o_assign, o_pick, o_alloc, o_box, o_load, o_store, o_nilCheck, o_bin, o_un, o_extract, o_callV, o_callB, o_callI, callV_f, callV_y, callV_fc, o_makeFunc, partsA, Instr.fill, builtin_len, builtin_max2, bin_add, bin_sub, bin_mul, bin_quo, bin_rem, bin_lss, bin_leq, bin_gtr, bin_geq, bin_eql, bin_neq, un_neg, un_not, opd, opds, optAll, lk, putO, put, has, rep, nbeq, nblt, constOk, isC, ops, sub, cl, cr, co, bodyOf, thenS_normal, thenS_ret, thenS_exit, thenS_goto, afterN_normal, afterN_ret, afterN_exit, afterN_goto, condS_true, condS_false, blockS_normal, blockS_ret, blockS_exit, blockS_goto, loopS_exit, loopS_ret, plainS_some, drawS_some, fpsOk, disj, unord, mem, range', dropTo, enumT, undef, wrap_i64_id, Value.cells, mkCells, ptrTo, scal, cellsAt, rdN, endS_ret, resultsA, Option.bind_some, tupV, finish, reach, reachN, dep, ptrL_eq, ptrL, renL_eq, renL, ptrV_bool, ptrV_int, ptrV_string, ptrV_nilFunc, ptrV_nilIface, ptrV_nilPtr, ptrV_ptr, ptrV_nilSl, ptrV_sl, ptrV_iface, ptrV_agg, ptrV_tuple, ptrV_func, renV_bool, renV_int, renV_string, renV_nilFunc, renV_nilIface, renV_nilPtr, renV_ptr, renV_nilSl, renV_sl, renV_iface, renV_agg, renV_tuple, renV_func, za_89, o_build za_89 pl_89, za_90, sz_90, za_79, sz_79, loadA_eq ia_79, za_35, o_build za_35 pl_35, loadA_eq ia_90, o_fieldAddr fa_35_2 (by decide), loadA_eq ia_3, o_fieldAddr fa_35_3 (by decide), o_fieldAddr fa_89_1 (by decide), o_indexAddrA ea_87, o_indexAddrA ea_86, loadA_eq ia_85, o_fieldAddr fa_89_0 (by decide), o_indexAddrA ea_83, o_indexAddrA ea_82, loadA_eq ia_35, lenA_sl lk_101, o_indexAddrS es_101, sz_35, sz_3, sz_85, o_mkI ii_93, ze_101, o_buildSlice es_101 ze_101 (by decide) ba_101_1, ap_101, builtin_append ni_101, o_mkI ii_94, o_fieldAddr fa_35_0 (by decide), o_fieldAddr fa_35_1 (by decide), za_47, o_build za_47 pl_47, sz_47, za_93, o_tassert ta_93.1 ta_93.2, za_94, o_tassert ta_94.1 ta_94.2, o_index ix_83, o_index ix_82, za_83, sz_83, o_fieldAddr fa_52_0 (by decide), loadA_eq ia_4, o_fieldAddr fa_52_1 (by decide), loadA_eq ia_83, loadA_eq ia_47, n47_1s, n47_3s, n47_4s, n47_2s, n47_0s, want_some q47_3g2, Try.f47, k36, h1, h2]
    · have h3 : (decide (1 ≤ h) && decide (h ≤ 8)) = false := by simp; omega
      simp (disch := first | omega | decide | assumption | simp [scal]) [runOps_nil, runOps_cons, runOpsF_nil, runOpsF_cons, fstS_some, fstF_some, opStep_eq, want_none, oStep_true, oStep_false, fin_pure, fin_read, fin_alloc, fin_write, storeB, wrN, cellV, addWr, o_move, o_assign, o_pick, o_alloc, o_box, o_load, o_store, o_nilCheck, o_bin, o_un, o_extract, o_callV, o_callB, o_callI, callV_f, callV_y, callV_fc, o_makeFunc, partsA, Instr.fill, builtin_len, builtin_max2, bin_add, bin_sub, bin_mul, bin_quo, bin_rem, bin_lss, bin_leq, bin_gtr, bin_geq, bin_eql, bin_neq, un_neg, un_not, opd, opds, optAll, lk, putO, put, has, rep, nbeq, nblt, constOk, isC, ops, sub, cl, cr, co, bodyOf, thenS_normal, thenS_ret, thenS_exit, thenS_goto, afterN_normal, afterN_ret, afterN_exit, afterN_goto, condS_true, condS_false, blockS_normal, blockS_ret, blockS_exit, blockS_goto, loopS_exit, loopS_ret, plainS_some, drawS_some, fpsOk, disj, unord, mem, range', dropTo, enumT, undef, wrap_i64_id, Value.cells, mkCells, ptrTo, scal, cellsAt, rdN, endS_ret, resultsA, Option.bind_some, tupV, finish, reach, reachN, dep, ptrL_eq, ptrL, renL_eq, renL, ptrV_bool, ptrV_int, ptrV_string, ptrV_nilFunc, ptrV_nilIface, ptrV_nilPtr, ptrV_ptr, ptrV_nilSl, ptrV_sl, ptrV_iface, ptrV_agg, ptrV_tuple, ptrV_func, renV_bool, renV_int, renV_string, renV_nilFunc, renV_nilIface, renV_nilPtr, renV_ptr, renV_nilSl, renV_sl, renV_iface, renV_agg, renV_tuple, renV_func, za_89, o_build za_89 pl_89, za_90, sz_90, za_79, sz_79, loadA_eq ia_79, za_35, o_build za_35 pl_35, loadA_eq ia_90, o_fieldAddr fa_35_2 (by decide), loadA_eq ia_3, o_fieldAddr fa_35_3 (by decide), o_fieldAddr fa_89_1 (by decide), o_indexAddrA ea_87, o_indexAddrA ea_86, loadA_eq ia_85, o_fieldAddr fa_89_0 (by decide), o_indexAddrA ea_83, o_indexAddrA ea_82, loadA_eq ia_35, lenA_sl lk_101, o_indexAddrS es_101, sz_35, sz_3, sz_85, o_mkI ii_93, ze_101, o_buildSlice es_101 ze_101 (by decide) ba_101_1, ap_101, builtin_append ni_101, o_mkI ii_94, o_fieldAddr fa_35_0 (by decide), o_fieldAddr fa_35_1 (by decide), za_47, o_build za_47 pl_47, sz_47, za_93, o_tassert ta_93.1 ta_93.2, za_94, o_tassert ta_94.1 ta_94.2, o_index ix_83, o_index ix_82, za_83, sz_83, o_fieldAddr fa_52_0 (by decide), loadA_eq ia_4, o_fieldAddr fa_52_1 (by decide), loadA_eq ia_83, loadA_eq ia_47, n47_1s, n47_3s, n47_4s, n47_2s, n47_0s, want_some q47_3g2, Try.f47, k36, h1, h2, h3]
  · have h3 : (decide (1 ≤ w) && decide (w ≤ 8)) = false := by simp; omega
    simp (disch := first | omega | decide | assumption | simp [scal]) [runOps_nil, runOps_cons, runOpsF_nil, runOpsF_cons, fstS_some, fstF_some, opStep_eq, want_none, oStep_true, oStep_false, fin_pure, fin_read, fin_alloc, fin_write, storeB, wrN, cellV, addWr, o_move, o_assign, o_pick, o_alloc, o_box, o_load, o_store, o_nilCheck, o_bin, o_un, o_extract, o_callV, o_callB, o_callI, callV_f, callV_y, callV_fc, o_makeFunc, partsA, Instr.fill, builtin_len, builtin_max2, bin_add, bin_sub, bin_mul, bin_quo, bin_rem, bin_lss, bin_leq, bin_gtr, bin_geq, bin_eql, bin_neq, un_neg, un_not, opd, opds, optAll, lk, putO, put, has, rep, nbeq, nblt, constOk, isC, ops, sub, cl, cr, co, bodyOf, thenS_normal, thenS_ret, thenS_exit, thenS_goto, afterN_normal, afterN_ret, afterN_exit, afterN_goto, condS_true, condS_false, blockS_normal, blockS_ret, blockS_exit, blockS_goto, loopS_exit, loopS_ret, plainS_some, drawS_some, fpsOk, disj, unord, mem, range', dropTo, enumT, undef, wrap_i64_id, Value.cells, mkCells, ptrTo, scal, cellsAt, rdN, endS_ret, resultsA, Option.bind_some, tupV, finish, reach, reachN, dep, ptrL_eq, ptrL, renL_eq, renL, ptrV_bool, ptrV_int, ptrV_string, ptrV_nilFunc, ptrV_nilIface, ptrV_nilPtr, ptrV_ptr, ptrV_nilSl, ptrV_sl, ptrV_iface, ptrV_agg, ptrV_tuple, ptrV_func, renV_bool, renV_int, renV_string, renV_nilFunc, renV_nilIface, renV_nilPtr, renV_ptr, renV_nilSl, renV_sl, renV_iface, renV_agg, renV_tuple, renV_func, za_89, o_build za_89 pl_89, za_90, sz_90, za_79, sz_79, loadA_eq ia_79, za_35, o_build za_35 pl_35, loadA_eq ia_90, o_fieldAddr fa_35_2 (by decide), loadA_eq ia_3, o_fieldAddr fa_35_3 (by decide), o_fieldAddr fa_89_1 (by decide), o_indexAddrA ea_87, o_indexAddrA ea_86, loadA_eq ia_85, o_fieldAddr fa_89_0 (by decide), o_indexAddrA ea_83, o_indexAddrA ea_82, loadA_eq ia_35, lenA_sl lk_101, o_indexAddrS es_101, sz_35, sz_3, sz_85, o_mkI ii_93, ze_101, o_buildSlice es_101 ze_101 (by decide) ba_101_1, ap_101, builtin_append ni_101, o_mkI ii_94, o_fieldAddr fa_35_0 (by decide), o_fieldAddr fa_35_1 (by decide), za_47, o_build za_47 pl_47, sz_47, za_93, o_tassert ta_93.1 ta_93.2, za_94, o_tassert ta_94.1 ta_94.2, o_index ix_83, o_index ix_82, za_83, sz_83, o_fieldAddr fa_52_0 (by decide), loadA_eq ia_4, o_fieldAddr fa_52_1 (by decide), loadA_eq ia_83, loadA_eq ia_47, n47_1s, n47_3s, n47_4s, n47_2s, n47_0s, want_some q47_3g2, Try.f47, k36, h1, h3]
/-- what 'Cost' answers -/
def cres (w h : Int) : Int × Int := if (1 ≤ w ∧ w ≤ 8) ∧ (1 ≤ h ∧ h ≤ 8) then (tT w.toNat h.toNat, 0) else (0, 1)
theorem k25 (w h : Int) (hp : List Blk) : callH LL 25 [iv w, iv h] hp = some ⟨.tuple #[iv (cres w h).1, iv (cres w h).2], hp, [], []⟩ := by
  refine callH_plain (go (by decide) ?_) rfl rfl
  rw [run25 _ _ _ (by simp)]
  by_cases h1 : 1 ≤ w ∧ w ≤ 8
  · by_cases h2 : 1 ≤ h ∧ h ≤ 8
    · have er : cres w h = (tT w.toNat h.toNat, 0) := by unfold cres; rw [if_pos ⟨h1, h2⟩]
      rw [er]
      obtain ⟨W, rfl⟩ : ∃ k : Nat, w = k := ⟨w.toNat, by omega⟩
      obtain ⟨H, rfl⟩ : ∃ k : Nat, h = k := ⟨h.toNat, by omega⟩
      have a1 := cost_at (w := W) (h := H) (by omega) (by omega)
      have wi : (W : Int) < 9 := by omega
      have hi : (H : Int) < 9 := by omega
      have k := k49
      simp only [costV] at k
      simp only [Int.toNat_natCast]
      generalize (tabT.map fun n => iv n).toArray = cs at *
      simp (disch := first | omega | decide | assumption | simp [scal]) [runOps_nil, runOps_cons, runOpsF_nil, runOpsF_cons, fstS_some, fstF_some, opStep_eq, want_none, oStep_true, oStep_false, fin_pure, fin_read, fin_alloc, fin_write, storeB, wrN, cellV, addWr, o_move, o_assign, o_pick, o_alloc, o_box, o_load, o_store, o_nilCheck, o_bin, o_un, o_extract, o_callV, o_callB, o_callI, callV_f, callV_y, callV_fc, o_makeFunc, partsA, Instr.fill, builtin_len, builtin_max2, bin_add, bin_sub, bin_mul, bin_quo, bin_rem, bin_lss, bin_leq, bin_gtr, bin_geq, bin_eql, bin_neq, un_neg, un_not, opd, opds, optAll, lk, putO, put, has, rep, nbeq, nblt, constOk, isC, ops, sub, cl, cr, co, bodyOf, thenS_normal, thenS_ret, thenS_exit, thenS_goto, afterN_normal, afterN_ret, afterN_exit, afterN_goto, condS_true, condS_false, blockS_normal, blockS_ret, blockS_exit, blockS_goto, loopS_exit, loopS_ret, plainS_some, drawS_some, fpsOk, disj, unord, mem, range', dropTo, enumT, undef, wrap_i64_id, Value.cells, mkCells, ptrTo, scal, cellsAt, rdN, endS_ret, resultsA, Option.bind_some, tupV, finish, reach, reachN, dep, ptrL_eq, ptrL, renL_eq, renL, ptrV_bool, ptrV_int, ptrV_string, ptrV_nilFunc, ptrV_nilIface, ptrV_nilPtr, ptrV_ptr, ptrV_nilSl, ptrV_sl, ptrV_iface, ptrV_agg, ptrV_tuple, ptrV_func, renV_bool, renV_int, renV_string, renV_nilFunc, renV_nilIface, renV_nilPtr, renV_ptr, renV_nilSl, renV_sl, renV_iface, renV_agg, renV_tuple, renV_func, za_89, o_build za_89 pl_89, za_90, sz_90, za_79, sz_79, loadA_eq ia_79, za_35, o_build za_35 pl_35, loadA_eq ia_90, o_fieldAddr fa_35_2 (by decide), loadA_eq ia_3, o_fieldAddr fa_35_3 (by decide), o_fieldAddr fa_89_1 (by decide), o_indexAddrA ea_87, o_indexAddrA ea_86, loadA_eq ia_85, o_fieldAddr fa_89_0 (by decide), o_indexAddrA ea_83, o_indexAddrA ea_82, loadA_eq ia_35, lenA_sl lk_101, o_indexAddrS es_101, sz_35, sz_3, sz_85, o_mkI ii_93, ze_101, o_buildSlice es_101 ze_101 (by decide) ba_101_1, ap_101, builtin_append ni_101, o_mkI ii_94, o_fieldAddr fa_35_0 (by decide), o_fieldAddr fa_35_1 (by decide), za_47, o_build za_47 pl_47, sz_47, za_93, o_tassert ta_93.1 ta_93.2, za_94, o_tassert ta_94.1 ta_94.2, o_index ix_83, o_index ix_82, za_83, sz_83, o_fieldAddr fa_52_0 (by decide), loadA_eq ia_4, o_fieldAddr fa_52_1 (by decide), loadA_eq ia_83, loadA_eq ia_47, n25_1s, n25_4s, n25_7s, n25_8s, n25_6s, n25_9s, n25_5s, n25_3s, n25_11s, n25_12s, n25_10s, n25_2s, n25_0s, want_some q25_4g3, Try.f25, k38, k, h1, h2, a1, wi, hi]
    · have er : cres w h = (0, 1) := by unfold cres; rw [if_neg (fun x => h2 x.2)]
      have h3 : (decide (1 ≤ h) && decide (h ≤ 8)) = false := by simp; omega
      rw [er]
      simp (disch := first | omega | decide | assumption | simp [scal]) [runOps_nil, runOps_cons, runOpsF_nil, runOpsF_cons, fstS_some, fstF_some, opStep_eq, want_none, oStep_true, oStep_false, fin_pure, fin_read, fin_alloc, fin_write, storeB, wrN, cellV, addWr, o_move, o_assign, o_pick, o_alloc, o_box, o_load, o_store, o_nilCheck, o_bin, o_un, o_extract, o_callV, o_callB, o_callI, callV_f, callV_y, callV_fc, o_makeFunc, partsA, Instr.fill, builtin_len, builtin_max2, bin_add, bin_sub, bin_mul, bin_quo, bin_rem, bin_lss, bin_leq, bin_gtr, bin_geq, bin_eql, bin_neq, un_neg, un_not, opd, opds, optAll, lk, putO, put, has, rep, nbeq, nblt, constOk, isC, ops, sub, cl, cr, co, bodyOf, thenS_normal, thenS_ret, thenS_exit, thenS_goto, afterN_normal, afterN_ret, afterN_exit, afterN_goto, condS_true, condS_false, blockS_normal, blockS_ret, blockS_exit, blockS_goto, loopS_exit, loopS_ret, plainS_some, drawS_some, fpsOk, disj, unord, mem, range', dropTo, enumT, undef, wrap_i64_id, Value.cells, mkCells, ptrTo, scal, cellsAt, rdN, endS_ret, resultsA, Option.bind_some, tupV, finish, reach, reachN, dep, ptrL_eq, ptrL, renL_eq, renL, ptrV_bool, ptrV_int, ptrV_string, ptrV_nilFunc, ptrV_nilIface, ptrV_nilPtr, ptrV_ptr, ptrV_nilSl, ptrV_sl, ptrV_iface, ptrV_agg, ptrV_tuple, ptrV_func, renV_bool, renV_int, renV_string, renV_nilFunc, renV_nilIface, renV_nilPtr, renV_ptr, renV_nilSl, renV_sl, renV_iface, renV_agg, renV_tuple, renV_func, za_89, o_build za_89 pl_89, za_90, sz_90, za_79, sz_79, loadA_eq ia_79, za_35, o_build za_35 pl_35, loadA_eq ia_90, o_fieldAddr fa_35_2 (by decide), loadA_eq ia_3, o_fieldAddr fa_35_3 (by decide), o_fieldAddr fa_89_1 (by decide), o_indexAddrA ea_87, o_indexAddrA ea_86, loadA_eq ia_85, o_fieldAddr fa_89_0 (by decide), o_indexAddrA ea_83, o_indexAddrA ea_82, loadA_eq ia_35, lenA_sl lk_101, o_indexAddrS es_101, sz_35, sz_3, sz_85, o_mkI ii_93, ze_101, o_buildSlice es_101 ze_101 (by decide) ba_101_1, ap_101, builtin_append ni_101, o_mkI ii_94, o_fieldAddr fa_35_0 (by decide), o_fieldAddr fa_35_1 (by decide), za_47, o_build za_47 pl_47, sz_47, za_93, o_tassert ta_93.1 ta_93.2, za_94, o_tassert ta_94.1 ta_94.2, o_index ix_83, o_index ix_82, za_83, sz_83, o_fieldAddr fa_52_0 (by decide), loadA_eq ia_4, o_fieldAddr fa_52_1 (by decide), loadA_eq ia_83, loadA_eq ia_47, n25_1s, n25_4s, n25_7s, n25_8s, n25_6s, n25_9s, n25_5s, n25_3s, n25_11s, n25_12s, n25_10s, n25_2s, n25_0s, want_some q25_4g3, Try.f25, k38, h1, h3]
  · have er : cres w h = (0, 1) := by unfold cres; rw [if_neg (fun x => h1 x.1)]
    have h3 : (decide (1 ≤ w) && decide (w ≤ 8)) = false := by simp; omega
    rw [er]
    simp (disch := first | omega | decide | assumption | simp [scal]) [runOps_nil, runOps_cons, runOpsF_nil, runOpsF_cons, fstS_some, fstF_some, opStep_eq, want_none, oStep_true, oStep_false, fin_pure, fin_read, fin_alloc, fin_write, storeB, wrN, cellV, addWr, o_move, o_assign, o_pick, o_alloc, o_box, o_load, o_store, o_nilCheck, o_bin, o_un, o_extract, o_callV, o_callB, o_callI, callV_f, callV_y, callV_fc, o_makeFunc, partsA, Instr.fill, builtin_len, builtin_max2, bin_add, bin_sub, bin_mul, bin_quo, bin_rem, bin_lss, bin_leq, bin_gtr, bin_geq, bin_eql, bin_neq, un_neg, un_not, opd, opds, optAll, lk, putO, put, has, rep, nbeq, nblt, constOk, isC, ops, sub, cl, cr, co, bodyOf, thenS_normal, thenS_ret, thenS_exit, thenS_goto, afterN_normal, afterN_ret, afterN_exit, afterN_goto, condS_true, condS_false, blockS_normal, blockS_ret, blockS_exit, blockS_goto, loopS_exit, loopS_ret, plainS_some, drawS_some, fpsOk, disj, unord, mem, range', dropTo, enumT, undef, wrap_i64_id, Value.cells, mkCells, ptrTo, scal, cellsAt, rdN, endS_ret, resultsA, Option.bind_some, tupV, finish, reach, reachN, dep, ptrL_eq, ptrL, renL_eq, renL, ptrV_bool, ptrV_int, ptrV_string, ptrV_nilFunc, ptrV_nilIface, ptrV_nilPtr, ptrV_ptr, ptrV_nilSl, ptrV_sl, ptrV_iface, ptrV_agg, ptrV_tuple, ptrV_func, renV_bool, renV_int, renV_string, renV_nilFunc, renV_nilIface, renV_nilPtr, renV_ptr, renV_nilSl, renV_sl, renV_iface, renV_agg, renV_tuple, renV_func, za_89, o_build za_89 pl_89, za_90, sz_90, za_79, sz_79, loadA_eq ia_79, za_35, o_build za_35 pl_35, loadA_eq ia_90, o_fieldAddr fa_35_2 (by decide), loadA_eq ia_3, o_fieldAddr fa_35_3 (by decide), o_fieldAddr fa_89_1 (by decide), o_indexAddrA ea_87, o_indexAddrA ea_86, loadA_eq ia_85, o_fieldAddr fa_89_0 (by decide), o_indexAddrA ea_83, o_indexAddrA ea_82, loadA_eq ia_35, lenA_sl lk_101, o_indexAddrS es_101, sz_35, sz_3, sz_85, o_mkI ii_93, ze_101, o_buildSlice es_101 ze_101 (by decide) ba_101_1, ap_101, builtin_append ni_101, o_mkI ii_94, o_fieldAddr fa_35_0 (by decide), o_fieldAddr fa_35_1 (by decide), za_47, o_build za_47 pl_47, sz_47, za_93, o_tassert ta_93.1 ta_93.2, za_94, o_tassert ta_94.1 ta_94.2, o_index ix_83, o_index ix_82, za_83, sz_83, o_fieldAddr fa_52_0 (by decide), loadA_eq ia_4, o_fieldAddr fa_52_1 (by decide), loadA_eq ia_83, loadA_eq ia_47, n25_1s, n25_4s, n25_7s, n25_8s, n25_6s, n25_9s, n25_5s, n25_3s, n25_11s, n25_12s, n25_10s, n25_2s, n25_0s, want_some q25_4g3, Try.f25, k38, h3]
end Go.Proofs.Ytgpcjdhlijompaa.ore

namespace Go.Proofs.Ytgpcjdhlijompaa.ore
open Go.GE
set_option linter.unusedVariables false
set_option linter.unusedSimpArgs false
set_option maxRecDepth 100000
/-- the error of 'Best' -/
def sres (w h : Int) : Int := if (1 ≤ w ∧ w ≤ 8) ∧ (1 ≤ h ∧ h ≤ 8) then (if w = 1 ∧ h = 1 then 22 else 0) else 1
theorem k27 (w h : Int) (hp : List Blk) : callH LL 27 [iv w, iv h] hp = some ⟨iv (sres w h), hp, [], []⟩ := by
  refine callH_plain (go (by decide) ?_) rfl rfl
  rw [run27 _ _ _ (by simp)]
  have k := k25 w h
  unfold cres at k
  unfold sres
  by_cases h1 : (1 ≤ w ∧ w ≤ 8) ∧ (1 ≤ h ∧ h ≤ 8)
  · simp only [h1, and_self, if_true] at k ⊢
    by_cases h2 : w = 1
    · by_cases h3 : h = 1
      · subst h2; subst h3
        simp (disch := first | omega | decide | assumption | simp [scal]) [runOps_nil, runOps_cons, runOpsF_nil, runOpsF_cons, fstS_some, fstF_some, opStep_eq, want_none, oStep_true, oStep_false, fin_pure, fin_read, fin_alloc, fin_write, storeB, wrN, cellV, addWr, o_move, o_assign, o_pick, o_alloc, o_box, o_load, o_store, o_nilCheck, o_bin, o_un, o_extract, o_callV, o_callB, o_callI, callV_f, callV_y, callV_fc, o_makeFunc, partsA, Instr.fill, builtin_len, builtin_max2, bin_add, bin_sub, bin_mul, bin_quo, bin_rem, bin_lss, bin_leq, bin_gtr, bin_geq, bin_eql, bin_neq, un_neg, un_not, opd, opds, optAll, lk, putO, put, has, rep, nbeq, nblt, constOk, isC, ops, sub, cl, cr, co, bodyOf, thenS_normal, thenS_ret, thenS_exit, thenS_goto, afterN_normal, afterN_ret, afterN_exit, afterN_goto, condS_true, condS_false, blockS_normal, blockS_ret, blockS_exit, blockS_goto, loopS_exit, loopS_ret, plainS_some, drawS_some, fpsOk, disj, unord, mem, range', dropTo, enumT, undef, wrap_i64_id, Value.cells, mkCells, ptrTo, scal, cellsAt, rdN, endS_ret, resultsA, Option.bind_some, tupV, finish, reach, reachN, dep, ptrL_eq, ptrL, renL_eq, renL, ptrV_bool, ptrV_int, ptrV_string, ptrV_nilFunc, ptrV_nilIface, ptrV_nilPtr, ptrV_ptr, ptrV_nilSl, ptrV_sl, ptrV_iface, ptrV_agg, ptrV_tuple, ptrV_func, renV_bool, renV_int, renV_string, renV_nilFunc, renV_nilIface, renV_nilPtr, renV_ptr, renV_nilSl, renV_sl, renV_iface, renV_agg, renV_tuple, renV_func, za_89, o_build za_89 pl_89, za_90, sz_90, za_79, sz_79, loadA_eq ia_79, za_35, o_build za_35 pl_35, loadA_eq ia_90, o_fieldAddr fa_35_2 (by decide), loadA_eq ia_3, o_fieldAddr fa_35_3 (by decide), o_fieldAddr fa_89_1 (by decide), o_indexAddrA ea_87, o_indexAddrA ea_86, loadA_eq ia_85, o_fieldAddr fa_89_0 (by decide), o_indexAddrA ea_83, o_indexAddrA ea_82, loadA_eq ia_35, lenA_sl lk_101, o_indexAddrS es_101, sz_35, sz_3, sz_85, o_mkI ii_93, ze_101, o_buildSlice es_101 ze_101 (by decide) ba_101_1, ap_101, builtin_append ni_101, o_mkI ii_94, o_fieldAddr fa_35_0 (by decide), o_fieldAddr fa_35_1 (by decide), za_47, o_build za_47 pl_47, sz_47, za_93, o_tassert ta_93.1 ta_93.2, za_94, o_tassert ta_94.1 ta_94.2, o_index ix_83, o_index ix_82, za_83, sz_83, o_fieldAddr fa_52_0 (by decide), loadA_eq ia_4, o_fieldAddr fa_52_1 (by decide), loadA_eq ia_83, loadA_eq ia_47, n27_1s, n27_3s, n27_6s, n27_8s, n27_9s, n27_7s, n27_5s, n27_11s, n27_12s, n27_10s, n27_4s, n27_2s, n27_0s, want_some q27_6g2, want_some q27_6g6, Try.f27, k]
      · simp (disch := first | omega | decide | assumption | simp [scal]) [runOps_nil, runOps_cons, runOpsF_nil, runOpsF_cons, fstS_some, fstF_some, opStep_eq, want_none, oStep_true, oStep_false, fin_pure, fin_read, fin_alloc, fin_write, storeB, wrN, cellV, addWr, o_move, o_assign, o_pick, o_alloc, o_box, o_load, o_store, o_nilCheck, o_bin, o_un, o_extract, o_callV, o_callB, o_callI, callV_f, callV_y, callV_fc, o_makeFunc, partsA, Instr.fill, builtin_len, builtin_max2, bin_add, bin_sub, bin_mul, bin_quo, bin_rem, bin_lss, bin_leq, bin_gtr, bin_geq, bin_eql, bin_neq, un_neg, un_not, opd, opds, optAll, lk, putO, put, has, rep, nbeq, nblt, constOk, isC, ops, sub, cl, cr, co, bodyOf, thenS_normal, thenS_ret, thenS_exit, thenS_goto, afterN_normal, afterN_ret, afterN_exit, afterN_goto, condS_true, condS_false, blockS_normal, blockS_ret, blockS_exit, blockS_goto, loopS_exit, loopS_ret, plainS_some, drawS_some, fpsOk, disj, unord, mem, range', dropTo, enumT, undef, wrap_i64_id, Value.cells, mkCells, ptrTo, scal, cellsAt, rdN, endS_ret, resultsA, Option.bind_some, tupV, finish, reach, reachN, dep, ptrL_eq, ptrL, renL_eq, renL, ptrV_bool, ptrV_int, ptrV_string, ptrV_nilFunc, ptrV_nilIface, ptrV_nilPtr, ptrV_ptr, ptrV_nilSl, ptrV_sl, ptrV_iface, ptrV_agg, ptrV_tuple, ptrV_func, renV_bool, renV_int, renV_string, renV_nilFunc, renV_nilIface, renV_nilPtr, renV_ptr, renV_nilSl, renV_sl, renV_iface, renV_agg, renV_tuple, renV_func, za_89, o_build za_89 pl_89, za_90, sz_90, za_79, sz_79, loadA_eq ia_79, za_35, o_build za_35 pl_35, loadA_eq ia_90, o_fieldAddr fa_35_2 (by decide), loadA_eq ia_3, o_fieldAddr fa_35_3 (by decide), o_fieldAddr fa_89_1 (by decide), o_indexAddrA ea_87, o_indexAddrA ea_86, loadA_eq ia_85, o_fieldAddr fa_89_0 (by decide), o_indexAddrA ea_83, o_indexAddrA ea_82, loadA_eq ia_35, lenA_sl lk_101, o_indexAddrS es_101, sz_35, sz_3, sz_85, o_mkI ii_93, ze_101, o_buildSlice es_101 ze_101 (by decide) ba_101_1, ap_101, builtin_append ni_101, o_mkI ii_94, o_fieldAddr fa_35_0 (by decide), o_fieldAddr fa_35_1 (by decide), za_47, o_build za_47 pl_47, sz_47, za_93, o_tassert ta_93.1 ta_93.2, za_94, o_tassert ta_94.1 ta_94.2, o_index ix_83, o_index ix_82, za_83, sz_83, o_fieldAddr fa_52_0 (by decide), loadA_eq ia_4, o_fieldAddr fa_52_1 (by decide), loadA_eq ia_83, loadA_eq ia_47, n27_1s, n27_3s, n27_6s, n27_8s, n27_9s, n27_7s, n27_5s, n27_11s, n27_12s, n27_10s, n27_4s, n27_2s, n27_0s, want_some q27_6g2, want_some q27_6g6, Try.f27, k, eq_true h2, h3]
    · simp (disch := first | omega | decide | assumption | simp [scal]) [runOps_nil, runOps_cons, runOpsF_nil, runOpsF_cons, fstS_some, fstF_some, opStep_eq, want_none, oStep_true, oStep_false, fin_pure, fin_read, fin_alloc, fin_write, storeB, wrN, cellV, addWr, o_move, o_assign, o_pick, o_alloc, o_box, o_load, o_store, o_nilCheck, o_bin, o_un, o_extract, o_callV, o_callB, o_callI, callV_f, callV_y, callV_fc, o_makeFunc, partsA, Instr.fill, builtin_len, builtin_max2, bin_add, bin_sub, bin_mul, bin_quo, bin_rem, bin_lss, bin_leq, bin_gtr, bin_geq, bin_eql, bin_neq, un_neg, un_not, opd, opds, optAll, lk, putO, put, has, rep, nbeq, nblt, constOk, isC, ops, sub, cl, cr, co, bodyOf, thenS_normal, thenS_ret, thenS_exit, thenS_goto, afterN_normal, afterN_ret, afterN_exit, afterN_goto, condS_true, condS_false, blockS_normal, blockS_ret, blockS_exit, blockS_goto, loopS_exit, loopS_ret, plainS_some, drawS_some, fpsOk, disj, unord, mem, range', dropTo, enumT, undef, wrap_i64_id, Value.cells, mkCells, ptrTo, scal, cellsAt, rdN, endS_ret, resultsA, Option.bind_some, tupV, finish, reach, reachN, dep, ptrL_eq, ptrL, renL_eq, renL, ptrV_bool, ptrV_int, ptrV_string, ptrV_nilFunc, ptrV_nilIface, ptrV_nilPtr, ptrV_ptr, ptrV_nilSl, ptrV_sl, ptrV_iface, ptrV_agg, ptrV_tuple, ptrV_func, renV_bool, renV_int, renV_string, renV_nilFunc, renV_nilIface, renV_nilPtr, renV_ptr, renV_nilSl, renV_sl, renV_iface, renV_agg, renV_tuple, renV_func, za_89, o_build za_89 pl_89, za_90, sz_90, za_79, sz_79, loadA_eq ia_79, za_35, o_build za_35 pl_35, loadA_eq ia_90, o_fieldAddr fa_35_2 (by decide), loadA_eq ia_3, o_fieldAddr fa_35_3 (by decide), o_fieldAddr fa_89_1 (by decide), o_indexAddrA ea_87, o_indexAddrA ea_86, loadA_eq ia_85, o_fieldAddr fa_89_0 (by decide), o_indexAddrA ea_83, o_indexAddrA ea_82, loadA_eq ia_35, lenA_sl lk_101, o_indexAddrS es_101, sz_35, sz_3, sz_85, o_mkI ii_93, ze_101, o_buildSlice es_101 ze_101 (by decide) ba_101_1, ap_101, builtin_append ni_101, o_mkI ii_94, o_fieldAddr fa_35_0 (by decide), o_fieldAddr fa_35_1 (by decide), za_47, o_build za_47 pl_47, sz_47, za_93, o_tassert ta_93.1 ta_93.2, za_94, o_tassert ta_94.1 ta_94.2, o_index ix_83, o_index ix_82, za_83, sz_83, o_fieldAddr fa_52_0 (by decide), loadA_eq ia_4, o_fieldAddr fa_52_1 (by decide), loadA_eq ia_83, loadA_eq ia_47, n27_1s, n27_3s, n27_6s, n27_8s, n27_9s, n27_7s, n27_5s, n27_11s, n27_12s, n27_10s, n27_4s, n27_2s, n27_0s, want_some q27_6g2, want_some q27_6g6, Try.f27, k, h2]
  · simp only [h1, if_false] at k ⊢
    simp (disch := first | omega | decide | assumption | simp [scal]) [runOps_nil, runOps_cons, runOpsF_nil, runOpsF_cons, fstS_some, fstF_some, opStep_eq, want_none, oStep_true, oStep_false, fin_pure, fin_read, fin_alloc, fin_write, storeB, wrN, cellV, addWr, o_move, o_assign, o_pick, o_alloc, o_box, o_load, o_store, o_nilCheck, o_bin, o_un, o_extract, o_callV, o_callB, o_callI, callV_f, callV_y, callV_fc, o_makeFunc, partsA, Instr.fill, builtin_len, builtin_max2, bin_add, bin_sub, bin_mul, bin_quo, bin_rem, bin_lss, bin_leq, bin_gtr, bin_geq, bin_eql, bin_neq, un_neg, un_not, opd, opds, optAll, lk, putO, put, has, rep, nbeq, nblt, constOk, isC, ops, sub, cl, cr, co, bodyOf, thenS_normal, thenS_ret, thenS_exit, thenS_goto, afterN_normal, afterN_ret, afterN_exit, afterN_goto, condS_true, condS_false, blockS_normal, blockS_ret, blockS_exit, blockS_goto, loopS_exit, loopS_ret, plainS_some, drawS_some, fpsOk, disj, unord, mem, range', dropTo, enumT, undef, wrap_i64_id, Value.cells, mkCells, ptrTo, scal, cellsAt, rdN, endS_ret, resultsA, Option.bind_some, tupV, finish, reach, reachN, dep, ptrL_eq, ptrL, renL_eq, renL, ptrV_bool, ptrV_int, ptrV_string, ptrV_nilFunc, ptrV_nilIface, ptrV_nilPtr, ptrV_ptr, ptrV_nilSl, ptrV_sl, ptrV_iface, ptrV_agg, ptrV_tuple, ptrV_func, renV_bool, renV_int, renV_string, renV_nilFunc, renV_nilIface, renV_nilPtr, renV_ptr, renV_nilSl, renV_sl, renV_iface, renV_agg, renV_tuple, renV_func, za_89, o_build za_89 pl_89, za_90, sz_90, za_79, sz_79, loadA_eq ia_79, za_35, o_build za_35 pl_35, loadA_eq ia_90, o_fieldAddr fa_35_2 (by decide), loadA_eq ia_3, o_fieldAddr fa_35_3 (by decide), o_fieldAddr fa_89_1 (by decide), o_indexAddrA ea_87, o_indexAddrA ea_86, loadA_eq ia_85, o_fieldAddr fa_89_0 (by decide), o_indexAddrA ea_83, o_indexAddrA ea_82, loadA_eq ia_35, lenA_sl lk_101, o_indexAddrS es_101, sz_35, sz_3, sz_85, o_mkI ii_93, ze_101, o_buildSlice es_101 ze_101 (by decide) ba_101_1, ap_101, builtin_append ni_101, o_mkI ii_94, o_fieldAddr fa_35_0 (by decide), o_fieldAddr fa_35_1 (by decide), za_47, o_build za_47 pl_47, sz_47, za_93, o_tassert ta_93.1 ta_93.2, za_94, o_tassert ta_94.1 ta_94.2, o_index ix_83, o_index ix_82, za_83, sz_83, o_fieldAddr fa_52_0 (by decide), loadA_eq ia_4, o_fieldAddr fa_52_1 (by decide), loadA_eq ia_83, loadA_eq ia_47, n27_1s, n27_3s, n27_6s, n27_8s, n27_9s, n27_7s, n27_5s, n27_11s, n27_12s, n27_10s, n27_4s, n27_2s, n27_0s, want_some q27_6g2, want_some q27_6g6, Try.f27, k]
theorem best_all2 : ((List.range 9).all fun W => (List.range 9).all fun H => W == 0 || H == 0 || (match tB W H with
    | some q => decide (1 ≤ q.2) && decide (q.2 < (if q.1 then W else H)) && decide (cst W H q = tT W H)
    | none => true)) = true := by decide +kernel
theorem best_q {W H : Nat} (hW : W < 9) (hH : H < 9) (h1 : 1 ≤ W) (h2 : 1 ≤ H) {q : Ln} (hq : tB W H = some q) : 1 ≤ q.2 ∧ q.2 < (if q.1 then W else H) ∧ cst W H q = tT W H := by
  have := List.all_eq_true.1 (List.all_eq_true.1 best_all2 W (List.mem_range.2 hW)) H (List.mem_range.2 hH)
  simp only [Bool.or_eq_true, beq_iff_eq, hq, Bool.and_eq_true, decide_eq_true_eq] at this
  rcases this with (h | h) | h
  · omega
  · omega
  · exact ⟨h.1.1, h.1.2, h.2⟩
theorem tab_at {w h : Nat} (hw : w < 9) (hh : h < 9) : (tabT.map fun n => iv n)[w * 9 + h]? = some (iv (tT w h)) := by
  rw [List.getElem?_map]
  unfold tT
  rw [List.getD_eq_getElem?_getD, List.getElem?_eq_getElem (by have : tabT.length = 81 := by decide
                                                               omega)]
  rfl
theorem wrN_full : ∀ (vs pre old : List Value), old.length = vs.length → vs.all cellV = true → wrN (pre ++ old) pre.length vs = some (pre ++ vs) := by
  intro vs
  induction vs with
  | nil => intro pre old h _; cases old with | nil => rfl | cons => simp at h
  | cons v vs ih =>
    intro pre old h hc
    cases old with
    | nil => simp at h
    | cons o old =>
      simp only [List.all_cons, Bool.and_eq_true] at hc
      have h1 : (Nat.blt pre.length (pre ++ o :: old).length && cellV v) = true := by simp [hc.1, nblt]
      have h2 : (pre ++ o :: old).set pre.length v = (pre ++ [v]) ++ old := by simp
      have h3 := ih (pre ++ [v]) old (by simpa using h) hc.2
      simp only [wrN, h1, cond_true, h2]
      rw [show pre.length + 1 = (pre ++ [v]).length by simp, h3]
      simp
theorem max_if2 (a b : Int) : (if a < b then b else a) = max a b := by omega
theorem tT_b2 (w h : Nat) : 0 ≤ tT w h ∧ tT w h ≤ 15 := by
  unfold tT
  by_cases hn : w * 9 + h < 81
  · have : ∀ n : Nat, n < 81 → 0 ≤ tabT.getD n 0 ∧ tabT.getD n 0 ≤ 15 := by decide
    exact this _ hn
  · rw [List.getD_eq_getElem?_getD, List.getElem?_eq_none (by simp [tabT]; omega)]
    decide
theorem get_of {vs : List Value} {i : Nat} {v : Value} (h : vs[i]? = some v) (hi : i < vs.length) : vs[i]'hi = v := by
  rw [List.getElem?_eq_getElem hi] at h
  exact Option.some.inj h
abbrev cv (q : Bool × Int) : Value := .agg #[.bool q.1, iv q.2]
theorem zc83 : ∃ z : List Value, zeroA Try.prog 83 = some (.agg z.toArray) ∧ z.length = 81 ∧ z.all scal = true := ⟨List.replicate 81 (iv 0), by kernel_rfl, by decide, by decide⟩
theorem callH_pureP {E : Ev} {f : FuncId} {args : List Value} {v : Value} {h : List Blk} (he : E.run f args [] = some ⟨v, [], []⟩) (ha : args.all plain = true) (hv : scal v = true) : callH E f args h = some ⟨v, h, [], []⟩ := by
  unfold callH
  simp only [ptr_plains ha]
  have hr : reach h 0 reachN [] [] = [] := rfl
  simp only [hr, ren_plains ha, optAll, he]
  exact mergeB_plain (by cases v <;> first | rfl | cases hv)
theorem k28 (W H : Nat) (hW : 1 ≤ W ∧ W ≤ 8) (hH : 1 ≤ H ∧ H ≤ 8) {q : Ln} (hq : tB W H = some q) (hp : List Blk) : callH LL 28 [iv W, iv H, cv (q.1, q.2)] hp = some ⟨.bool true, hp, [], []⟩ := by
  refine callH_pureP (go (by decide) ?_) rfl rfl
  rw [run28 _ _ _ (by simp)]
  obtain ⟨q1, q2, q3⟩ := best_q (by omega) (by omega) hW.1 hH.1 hq
  obtain ⟨z, z1, z2, z3⟩ := zc83
  have hl : (tabT.map fun n => iv n).length = 81 := by decide
  have hw := wrN_full (tabT.map fun n => iv n) [] z (by rw [z2, hl]) (by decide)
  simp only [List.nil_append, List.length_nil] at hw
  have k := k49
  simp only [costV] at k
  have g1 := tT_b2
  obtain ⟨tag, m⟩ := q
  have a3 := tab_at (w := W) (h := H) (by omega) (by omega)
  have sc : (tabT.map fun n => iv n).all scal = true := by decide
  cases tag with
  | true =>
    simp only [if_true] at q1 q2
    simp only [cst, ndl, one, two, if_true] at q3
    have a1 := tab_at (w := m) (h := H) (by omega) (by omega)
    have a2 := tab_at (w := W - m) (h := H) (by omega) (by omega)
    have t1 := g1 m H; have t2 := g1 (W - m) H
    have e1 : (W : Int) - m = ((W - m : Nat) : Int) := by omega
    have i1 : (m : Int) < 9 := by omega
    have i2 : (H : Int) < 9 := by omega
    have i3 : ((W - m : Nat) : Int) < 9 := by omega
    have i4 : (W : Int) < 9 := by omega
    have i5 : (1 : Int) ≤ m := by omega
    have i6 : (m : Int) ≤ W - 1 := by omega
    generalize (tabT.map fun n => iv n) = vs at *
    generalize tT m H = T1 at *
    generalize tT (W - m) H = T2 at *
    generalize tT W H = T at *
    simp (disch := first | omega | decide | assumption | simp [scal]) [runOps_nil, runOps_cons, runOpsF_nil, runOpsF_cons, fstS_some, fstF_some, opStep_eq, want_none, oStep_true, oStep_false, fin_pure, fin_read, fin_alloc, fin_write, storeB, wrN, cellV, addWr, o_move, o_assign, o_pick, o_alloc, o_box, o_load, o_store, o_nilCheck, o_bin, o_un, o_extract, o_callV, o_callB, o_callI, callV_f, callV_y, callV_fc, o_makeFunc, partsA, Instr.fill, builtin_len, builtin_max2, bin_add, bin_sub, bin_mul, bin_quo, bin_rem, bin_lss, bin_leq, bin_gtr, bin_geq, bin_eql, bin_neq, un_neg, un_not, opd, opds, optAll, lk, putO, put, has, rep, nbeq, nblt, constOk, isC, ops, sub, cl, cr, co, bodyOf, thenS_normal, thenS_ret, thenS_exit, thenS_goto, afterN_normal, afterN_ret, afterN_exit, afterN_goto, condS_true, condS_false, blockS_normal, blockS_ret, blockS_exit, blockS_goto, loopS_exit, loopS_ret, plainS_some, drawS_some, fpsOk, disj, unord, mem, range', dropTo, enumT, undef, wrap_i64_id, Value.cells, mkCells, ptrTo, scal, cellsAt, rdN, endS_ret, resultsA, Option.bind_some, tupV, finish, reach, reachN, dep, ptrL_eq, ptrL, renL_eq, renL, ptrV_bool, ptrV_int, ptrV_string, ptrV_nilFunc, ptrV_nilIface, ptrV_nilPtr, ptrV_ptr, ptrV_nilSl, ptrV_sl, ptrV_iface, ptrV_agg, ptrV_tuple, ptrV_func, renV_bool, renV_int, renV_string, renV_nilFunc, renV_nilIface, renV_nilPtr, renV_ptr, renV_nilSl, renV_sl, renV_iface, renV_agg, renV_tuple, renV_func, za_89, o_build za_89 pl_89, za_90, sz_90, za_79, sz_79, loadA_eq ia_79, za_35, o_build za_35 pl_35, loadA_eq ia_90, o_fieldAddr fa_35_2 (by decide), loadA_eq ia_3, o_fieldAddr fa_35_3 (by decide), o_fieldAddr fa_89_1 (by decide), o_indexAddrA ea_87, o_indexAddrA ea_86, loadA_eq ia_85, o_fieldAddr fa_89_0 (by decide), o_indexAddrA ea_82, loadA_eq ia_35, lenA_sl lk_101, o_indexAddrS es_101, sz_35, sz_3, sz_85, o_mkI ii_93, ze_101, o_buildSlice es_101 ze_101 (by decide) ba_101_1, ap_101, builtin_append ni_101, o_mkI ii_94, o_fieldAddr fa_35_0 (by decide), o_fieldAddr fa_35_1 (by decide), za_47, o_build za_47 pl_47, sz_47, za_93, o_tassert ta_93.1 ta_93.2, za_94, o_tassert ta_94.1 ta_94.2, o_index ix_82, o_fieldAddr fa_52_0 (by decide), loadA_eq ia_4, o_fieldAddr fa_52_1 (by decide), loadA_eq ia_47, n28_1s, n28_3s, n28_6s, n28_9s, n28_10s, n28_8s, n28_11s, n28_7s, n28_5s, n28_13s, n28_14s, n28_12s, n28_4s, n28_2s, n28_0s, want_some q28_9g5, want_some q28_13g5, Try.f28, k38, k, z1, z2, z3, hl, hw, sc, a1, a2, a3, get_of a1, get_of a2, get_of a3, e1, i1, i2, i3, i4, i5, i6, max_if2, q3, o_indexAddrA ea_83, loadA_eq ia_83, sz_83]
  | false =>
    simp only [Bool.false_eq_true, if_false] at q1 q2
    simp only [cst, ndl, one, two, Bool.false_eq_true, if_false] at q3
    have a1 := tab_at (w := W) (h := m) (by omega) (by omega)
    have a2 := tab_at (w := W) (h := H - m) (by omega) (by omega)
    have t1 := g1 W m; have t2 := g1 W (H - m)
    have e1 : (H : Int) - m = ((H - m : Nat) : Int) := by omega
    have i1 : (m : Int) < 9 := by omega
    have i2 : (H : Int) < 9 := by omega
    have i3 : ((H - m : Nat) : Int) < 9 := by omega
    have i4 : (W : Int) < 9 := by omega
    have i5 : (1 : Int) ≤ m := by omega
    have i6 : (m : Int) ≤ H - 1 := by omega
    generalize (tabT.map fun n => iv n) = vs at *
    generalize tT W m = T1 at *
    generalize tT W (H - m) = T2 at *
    generalize tT W H = T at *
    simp (disch := first | omega | decide | assumption | simp [scal]) [runOps_nil, runOps_cons, runOpsF_nil, runOpsF_cons, fstS_some, fstF_some, opStep_eq, want_none, oStep_true, oStep_false, fin_pure, fin_read, fin_alloc, fin_write, storeB, wrN, cellV, addWr, o_move, o_assign, o_pick, o_alloc, o_box, o_load, o_store, o_nilCheck, o_bin, o_un, o_extract, o_callV, o_callB, o_callI, callV_f, callV_y, callV_fc, o_makeFunc, partsA, Instr.fill, builtin_len, builtin_max2, bin_add, bin_sub, bin_mul, bin_quo, bin_rem, bin_lss, bin_leq, bin_gtr, bin_geq, bin_eql, bin_neq, un_neg, un_not, opd, opds, optAll, lk, putO, put, has, rep, nbeq, nblt, constOk, isC, ops, sub, cl, cr, co, bodyOf, thenS_normal, thenS_ret, thenS_exit, thenS_goto, afterN_normal, afterN_ret, afterN_exit, afterN_goto, condS_true, condS_false, blockS_normal, blockS_ret, blockS_exit, blockS_goto, loopS_exit, loopS_ret, plainS_some, drawS_some, fpsOk, disj, unord, mem, range', dropTo, enumT, undef, wrap_i64_id, Value.cells, mkCells, ptrTo, scal, cellsAt, rdN, endS_ret, resultsA, Option.bind_some, tupV, finish, reach, reachN, dep, ptrL_eq, ptrL, renL_eq, renL, ptrV_bool, ptrV_int, ptrV_string, ptrV_nilFunc, ptrV_nilIface, ptrV_nilPtr, ptrV_ptr, ptrV_nilSl, ptrV_sl, ptrV_iface, ptrV_agg, ptrV_tuple, ptrV_func, renV_bool, renV_int, renV_string, renV_nilFunc, renV_nilIface, renV_nilPtr, renV_ptr, renV_nilSl, renV_sl, renV_iface, renV_agg, renV_tuple, renV_func, za_89, o_build za_89 pl_89, za_90, sz_90, za_79, sz_79, loadA_eq ia_79, za_35, o_build za_35 pl_35, loadA_eq ia_90, o_fieldAddr fa_35_2 (by decide), loadA_eq ia_3, o_fieldAddr fa_35_3 (by decide), o_fieldAddr fa_89_1 (by decide), o_indexAddrA ea_87, o_indexAddrA ea_86, loadA_eq ia_85, o_fieldAddr fa_89_0 (by decide), o_indexAddrA ea_82, loadA_eq ia_35, lenA_sl lk_101, o_indexAddrS es_101, sz_35, sz_3, sz_85, o_mkI ii_93, ze_101, o_buildSlice es_101 ze_101 (by decide) ba_101_1, ap_101, builtin_append ni_101, o_mkI ii_94, o_fieldAddr fa_35_0 (by decide), o_fieldAddr fa_35_1 (by decide), za_47, o_build za_47 pl_47, sz_47, za_93, o_tassert ta_93.1 ta_93.2, za_94, o_tassert ta_94.1 ta_94.2, o_index ix_82, o_fieldAddr fa_52_0 (by decide), loadA_eq ia_4, o_fieldAddr fa_52_1 (by decide), loadA_eq ia_47, n28_1s, n28_3s, n28_6s, n28_9s, n28_10s, n28_8s, n28_11s, n28_7s, n28_5s, n28_13s, n28_14s, n28_12s, n28_4s, n28_2s, n28_0s, want_some q28_9g5, want_some q28_13g5, Try.f28, k38, k, z1, z2, z3, hl, hw, sc, a1, a2, a3, get_of a1, get_of a2, get_of a3, e1, i1, i2, i3, i4, i5, i6, max_if2, q3, o_indexAddrA ea_83, loadA_eq ia_83, sz_83]
end Go.Proofs.Ytgpcjdhlijompaa.ore

