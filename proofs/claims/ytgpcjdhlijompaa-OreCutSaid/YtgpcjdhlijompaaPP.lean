import Derived.Test.YtgpcjdhlijompaaNP
import Derived.Test.YtgpcjdhlijompaaWk
import Derived.Test.YtgpcjdhlijompaaE33
namespace Go.Proofs.Ytgpcjdhlijompaa.ore
open Go.GE
set_option linter.unusedVariables false
set_option linter.unusedSimpArgs false
set_option maxRecDepth 100000
noncomputable abbrev LL : Ev := L Try.prog wk.wtab
theorem other {f : FuncId} (hf : (14 : Nat) ≠ f) (a : List Value) (h : List Blk) : wk.wtab f a h = none := tabL_other hf
theorem go {f : FuncId} {args : List Value} {h : List Blk} {r : RR} (hf : (14 : Nat) ≠ f) (he : runB Try.prog LL f args h = some r) : LL.run f args h = some r := L_run (other hf _ _) he
abbrev iv (n : Int) : Value := .int .i64 n
theorem k36 (a b c : Int) (h : List Blk) : callH LL 36 [iv a, iv b, iv c] h = some ⟨.bool (decide (a ≤ b) && decide (b ≤ c)), h, [], []⟩ := by
  refine callH_plain (go (by decide) ?_) rfl rfl
  rw [run36 _ _ _ (by simp)]
  by_cases h1 : a ≤ b <;> by_cases h2 : b ≤ c <;>
  simp (disch := first | omega | decide | assumption | simp [scal]) [runOps_nil, runOps_cons, runOpsF_nil, runOpsF_cons, fstS_some, fstF_some, opStep_eq, want_none, oStep_true, oStep_false, fin_pure, fin_read, fin_alloc, fin_write, storeB, wrN, cellV, addWr, o_move, o_assign, o_pick, o_alloc, o_box, o_load, o_store, o_nilCheck, o_bin, o_un, o_extract, o_callV, o_callB, o_callI, callV_f, callV_y, callV_fc, o_makeFunc, partsA, Instr.fill, builtin_len, builtin_max2, bin_add, bin_sub, bin_mul, bin_quo, bin_rem, bin_lss, bin_leq, bin_gtr, bin_geq, bin_eql, bin_neq, un_neg, un_not, opd, opds, optAll, lk, putO, put, has, rep, nbeq, nblt, constOk, isC, ops, sub, cl, cr, co, bodyOf, thenS_normal, thenS_ret, thenS_exit, thenS_goto, afterN_normal, afterN_ret, afterN_exit, afterN_goto, condS_true, condS_false, blockS_normal, blockS_ret, blockS_exit, blockS_goto, loopS_exit, loopS_ret, plainS_some, drawS_some, fpsOk, disj, unord, mem, range', dropTo, enumT, undef, wrap_i64_id, Value.cells, mkCells, ptrTo, scal, cellsAt, rdN, endS_ret, resultsA, Option.bind_some, tupV, finish, reach, reachN, dep, ptrL_eq, ptrL, renL_eq, renL, ptrV_bool, ptrV_int, ptrV_string, ptrV_nilFunc, ptrV_nilIface, ptrV_nilPtr, ptrV_ptr, ptrV_nilSl, ptrV_sl, ptrV_iface, ptrV_agg, ptrV_tuple, ptrV_func, renV_bool, renV_int, renV_string, renV_nilFunc, renV_nilIface, renV_nilPtr, renV_ptr, renV_nilSl, renV_sl, renV_iface, renV_agg, renV_tuple, renV_func, za_89, o_build za_89 pl_89, za_90, sz_90, za_79, sz_79, loadA_eq ia_79, za_35, o_build za_35 pl_35, loadA_eq ia_90, o_fieldAddr fa_35_2 (by decide), loadA_eq ia_3, o_fieldAddr fa_35_3 (by decide), o_fieldAddr fa_89_1 (by decide), o_indexAddrA ea_87, o_indexAddrA ea_86, loadA_eq ia_85, o_fieldAddr fa_89_0 (by decide), o_indexAddrA ea_83, o_indexAddrA ea_82, loadA_eq ia_35, lenA_sl lk_101, o_indexAddrS es_101, sz_35, sz_3, sz_85, o_mkI ii_93, ze_101, o_buildSlice es_101 ze_101 (by decide) ba_101_1, ap_101, builtin_append ni_101, o_mkI ii_94, o_fieldAddr fa_35_0 (by decide), o_fieldAddr fa_35_1 (by decide), za_47, o_build za_47 pl_47, sz_47, za_93, o_tassert ta_93.1 ta_93.2, za_94, o_tassert ta_94.1 ta_94.2, o_index ix_83, o_index ix_82, za_83, sz_83, o_fieldAddr fa_52_0 (by decide), loadA_eq ia_4, o_fieldAddr fa_52_1 (by decide), loadA_eq ia_83, loadA_eq ia_47, n36_1s, n36_3s, n36_4s, n36_2s, n36_0s, want_some q36_3g3, Try.f36, h1, h2]
theorem k51 (a b c : Int) (h : List Blk) : callH LL 51 [iv a, iv b, iv c] h = some ⟨.bool (decide (b ≤ a) && decide (a ≤ c)), h, [], []⟩ := by
  refine callH_plain (go (by decide) ?_) rfl rfl
  rw [run51 _ _ _ (by simp)]
  by_cases h1 : b ≤ a <;> by_cases h2 : a ≤ c <;>
  simp (disch := first | omega | decide | assumption | simp [scal]) [runOps_nil, runOps_cons, runOpsF_nil, runOpsF_cons, fstS_some, fstF_some, opStep_eq, want_none, oStep_true, oStep_false, fin_pure, fin_read, fin_alloc, fin_write, storeB, wrN, cellV, addWr, o_move, o_assign, o_pick, o_alloc, o_box, o_load, o_store, o_nilCheck, o_bin, o_un, o_extract, o_callV, o_callB, o_callI, callV_f, callV_y, callV_fc, o_makeFunc, partsA, Instr.fill, builtin_len, builtin_max2, bin_add, bin_sub, bin_mul, bin_quo, bin_rem, bin_lss, bin_leq, bin_gtr, bin_geq, bin_eql, bin_neq, un_neg, un_not, opd, opds, optAll, lk, putO, put, has, rep, nbeq, nblt, constOk, isC, ops, sub, cl, cr, co, bodyOf, thenS_normal, thenS_ret, thenS_exit, thenS_goto, afterN_normal, afterN_ret, afterN_exit, afterN_goto, condS_true, condS_false, blockS_normal, blockS_ret, blockS_exit, blockS_goto, loopS_exit, loopS_ret, plainS_some, drawS_some, fpsOk, disj, unord, mem, range', dropTo, enumT, undef, wrap_i64_id, Value.cells, mkCells, ptrTo, scal, cellsAt, rdN, endS_ret, resultsA, Option.bind_some, tupV, finish, reach, reachN, dep, ptrL_eq, ptrL, renL_eq, renL, ptrV_bool, ptrV_int, ptrV_string, ptrV_nilFunc, ptrV_nilIface, ptrV_nilPtr, ptrV_ptr, ptrV_nilSl, ptrV_sl, ptrV_iface, ptrV_agg, ptrV_tuple, ptrV_func, renV_bool, renV_int, renV_string, renV_nilFunc, renV_nilIface, renV_nilPtr, renV_ptr, renV_nilSl, renV_sl, renV_iface, renV_agg, renV_tuple, renV_func, za_89, o_build za_89 pl_89, za_90, sz_90, za_79, sz_79, loadA_eq ia_79, za_35, o_build za_35 pl_35, loadA_eq ia_90, o_fieldAddr fa_35_2 (by decide), loadA_eq ia_3, o_fieldAddr fa_35_3 (by decide), o_fieldAddr fa_89_1 (by decide), o_indexAddrA ea_87, o_indexAddrA ea_86, loadA_eq ia_85, o_fieldAddr fa_89_0 (by decide), o_indexAddrA ea_83, o_indexAddrA ea_82, loadA_eq ia_35, lenA_sl lk_101, o_indexAddrS es_101, sz_35, sz_3, sz_85, o_mkI ii_93, ze_101, o_buildSlice es_101 ze_101 (by decide) ba_101_1, ap_101, builtin_append ni_101, o_mkI ii_94, o_fieldAddr fa_35_0 (by decide), o_fieldAddr fa_35_1 (by decide), za_47, o_build za_47 pl_47, sz_47, za_93, o_tassert ta_93.1 ta_93.2, za_94, o_tassert ta_94.1 ta_94.2, o_index ix_83, o_index ix_82, za_83, sz_83, o_fieldAddr fa_52_0 (by decide), loadA_eq ia_4, o_fieldAddr fa_52_1 (by decide), loadA_eq ia_83, loadA_eq ia_47, n51_1s, n51_3s, n51_4s, n51_2s, n51_0s, want_some q51_3g3, Try.f51, h1, h2]
theorem k38 (a b c : Int) (h : List Blk) : callH LL 38 [iv a, iv b, iv c] h = some ⟨.bool (decide (b ≤ a) && decide (a ≤ c)), h, [], []⟩ := by
  refine callH_plain (go (by decide) ?_) rfl rfl
  rw [run38 _ _ _ (by simp)]
  simp (disch := first | omega | decide | assumption | simp [scal]) [runOps_nil, runOps_cons, runOpsF_nil, runOpsF_cons, fstS_some, fstF_some, opStep_eq, want_none, oStep_true, oStep_false, fin_pure, fin_read, fin_alloc, fin_write, storeB, wrN, cellV, addWr, o_move, o_assign, o_pick, o_alloc, o_box, o_load, o_store, o_nilCheck, o_bin, o_un, o_extract, o_callV, o_callB, o_callI, callV_f, callV_y, callV_fc, o_makeFunc, partsA, Instr.fill, builtin_len, builtin_max2, bin_add, bin_sub, bin_mul, bin_quo, bin_rem, bin_lss, bin_leq, bin_gtr, bin_geq, bin_eql, bin_neq, un_neg, un_not, opd, opds, optAll, lk, putO, put, has, rep, nbeq, nblt, constOk, isC, ops, sub, cl, cr, co, bodyOf, thenS_normal, thenS_ret, thenS_exit, thenS_goto, afterN_normal, afterN_ret, afterN_exit, afterN_goto, condS_true, condS_false, blockS_normal, blockS_ret, blockS_exit, blockS_goto, loopS_exit, loopS_ret, plainS_some, drawS_some, fpsOk, disj, unord, mem, range', dropTo, enumT, undef, wrap_i64_id, Value.cells, mkCells, ptrTo, scal, cellsAt, rdN, endS_ret, resultsA, Option.bind_some, tupV, finish, reach, reachN, dep, ptrL_eq, ptrL, renL_eq, renL, ptrV_bool, ptrV_int, ptrV_string, ptrV_nilFunc, ptrV_nilIface, ptrV_nilPtr, ptrV_ptr, ptrV_nilSl, ptrV_sl, ptrV_iface, ptrV_agg, ptrV_tuple, ptrV_func, renV_bool, renV_int, renV_string, renV_nilFunc, renV_nilIface, renV_nilPtr, renV_ptr, renV_nilSl, renV_sl, renV_iface, renV_agg, renV_tuple, renV_func, za_89, o_build za_89 pl_89, za_90, sz_90, za_79, sz_79, loadA_eq ia_79, za_35, o_build za_35 pl_35, loadA_eq ia_90, o_fieldAddr fa_35_2 (by decide), loadA_eq ia_3, o_fieldAddr fa_35_3 (by decide), o_fieldAddr fa_89_1 (by decide), o_indexAddrA ea_87, o_indexAddrA ea_86, loadA_eq ia_85, o_fieldAddr fa_89_0 (by decide), o_indexAddrA ea_83, o_indexAddrA ea_82, loadA_eq ia_35, lenA_sl lk_101, o_indexAddrS es_101, sz_35, sz_3, sz_85, o_mkI ii_93, ze_101, o_buildSlice es_101 ze_101 (by decide) ba_101_1, ap_101, builtin_append ni_101, o_mkI ii_94, o_fieldAddr fa_35_0 (by decide), o_fieldAddr fa_35_1 (by decide), za_47, o_build za_47 pl_47, sz_47, za_93, o_tassert ta_93.1 ta_93.2, za_94, o_tassert ta_94.1 ta_94.2, o_index ix_83, o_index ix_82, za_83, sz_83, o_fieldAddr fa_52_0 (by decide), loadA_eq ia_4, o_fieldAddr fa_52_1 (by decide), loadA_eq ia_83, loadA_eq ia_47, n38_1s, n38_3s, n38_4s, n38_2s, n38_0s, Try.f38, k51]
def small (x : Int) : Prop := -100000 ≤ x ∧ x ≤ 100000
theorem cast1 (i : Nat) : ((i + 1 : Nat) : Int) = (i : Int) + 1 := rfl
theorem ren_plains {f : Nat → Option Nat} {vs : List Value} (hv : vs.all plain = true) : optAll (renV f dep) vs = some vs := by
  induction vs with
  | nil => rfl
  | cons v vs ih =>
    simp only [List.all_cons, Bool.and_eq_true] at hv
    have e : renV f dep v = some v := renV_plain (d := 4) hv.1
    simp only [optAll, e, ih hv.2]
theorem ptr_plains {vs : List Value} (hv : vs.all plain = true) : vs.flatMap (ptrV dep) = [] := by
  induction vs with
  | nil => rfl
  | cons v vs ih =>
    simp only [List.all_cons, Bool.and_eq_true] at hv
    simp only [List.flatMap_cons, ih hv.2, List.append_nil]
    cases v with
    | agg cs =>
      have h' : cs.toList.all scal = true := hv.1
      exact ptrV_scal h'
    | tuple cs =>
      have h' : cs.toList.all scal = true := hv.1
      exact ptrV_scal h'
    | _ => have := hv.1; simp [plain, scal] at this <;> rfl
/-- a block's value -/
abbrev bv (X Y W H : Int) : Value := .agg #[iv X, iv Y, iv W, iv H]
abbrev bb (X Y W H : Int) : Blk := .cells [iv X, iv Y, iv W, iv H] 1 true true
theorem ptrB_flat {cs : List Value} {e : Nat} {own : Bool} : ptrB (.cells cs e true own) = [] := rfl
theorem ptrB_non {cs : List Value} {e : Nat} {own : Bool} : ptrB (.cells cs e false own) = ptrL dep cs := ptrL_eq
theorem renB_flat {f : Nat → Option Nat} {cs : List Value} {e : Nat} {own : Bool} : renB f (.cells cs e true own) = some (.cells cs e true own) := rfl
theorem renB_non {f : Nat → Option Nat} {cs : List Value} {e : Nat} {own : Bool} : renB f (.cells cs e false own) = (renL f dep cs).map fun l => .cells l e false own := by rw [← renL_eq]; rfl
end Go.Proofs.Ytgpcjdhlijompaa.ore
