/-
  Contracts of functions of the program at the limit evaluator, continued. No condition.
-/
import Derived.Test.YtgpcjdhlijompaaOF1
namespace Go.Proofs.Ytgpcjdhlijompaa.ore
open Go.GE
set_option linter.unusedVariables false
set_option linter.unusedSimpArgs false
set_option maxRecDepth 100000
/-- a line: upright or level, and where -/
abbrev Ln := Bool × Nat
def lv (l : Ln) : Value := .iface (if l.1 then 93 else 94) (iv l.2)
theorem lv_t {n : Nat} : lv (true, n) = .iface 93 (iv n) := rfl
theorem lv_f {n : Nat} : lv (false, n) = .iface 94 (iv n) := rfl
def linB (l : List Ln) : Blk := .cells (l.map lv) 1 false true
theorem lin_noIds (l : List Ln) : noIds (l.map lv) := noIds_of fun v hv => by
  obtain ⟨q, _, rfl⟩ := List.mem_map.1 hv
  exact ⟨fun f => rfl, rfl⟩
theorem ptrB_lin {l : List Ln} : ptrB (linB l) = [] := noIds_ptrB (lin_noIds l)
theorem renB_lin {f : Nat → Option Nat} {l : List Ln} : renB f (linB l) = some (linB l) := noIds_renB (lin_noIds l)
def slL (b : Nat) : List Ln → Value
  | [] => .slice none 0 0
  | q :: t => .slice (some ⟨b, 0, none⟩) (t.length + 1) (t.length + 1)
def blL : List Ln → List Blk
  | [] => []
  | q :: t => [linB (q :: t)]
def ups (n : Nat) : List Ln := (List.range n).map fun i => (true, i + 1)
def levs (n : Nat) : List Ln := (List.range n).map fun i => (false, i + 1)
def lineL (W H : Nat) : List Ln := ups (W - 1) ++ levs (H - 1)
theorem app_lin {h : List Blk} {b c : Nat} {q : Ln} {t : List Ln} {p : Ln} {rd : List Nat} (hl : (q :: t).length ≤ 1000) : appS h 1 16 b 0 (t.length + 1) c (some (linB (q :: t))) (some (1, [lv p], false, rd)) =
    some ⟨.slice (some ⟨h.length, 0, none⟩) (t.length + 1 + 1) (t.length + 1 + 1), h.set b .dead ++ [linB (q :: (t ++ [p]))], b :: rd, [b]⟩ := by
  have hr := rdN_all ((q :: t).map lv) ((t.length + 1) * 1) 0 (by simp)
  simp only [List.length_cons] at hl
  simp only [appS, linB, hr, List.drop_zero]
  rw [if_pos (by refine ⟨by omega, by omega, ?_, ?_⟩ <;> first | trivial | rfl)]
  simp
def bx55 : List Ln → Nat
  | [] => 0
  | _ :: _ => 1
section
variable (X Y : Int) (W H : Nat)
def L55 (n : Nat) (l : List Ln) : Tm := [(4, iv n), (3, slL 0 l), (2, .slice none 0 0), (1, .pointer (some ⟨bx55 l, 0, none⟩)), (0, bv X Y W H)]
def H55 : List Ln → List Blk
  | [] => [bb X Y W H]
  | q :: t => [linB (q :: t), bb X Y W H]
theorem l55a (hW : W ≤ 100 ∧ H ≤ 100) (hp : 1 ≤ W) : ∀ k n : Nat, n + k = W → 1 ≤ n →
    codeB Try.prog LL ⟨55, 29, 0, none⟩ n55_8 ⟨L55 X Y W H n (ups (n - 1)), H55 X Y W H (ups (n - 1)), []⟩ =
      some (.exit 0, ⟨(9, .bool false) :: (8, iv W) :: (7, .pointer (some ⟨bx55 (ups (W - 1)), 2, none⟩)) :: (6, iv W) :: L55 X Y W H W (ups (W - 1)), H55 X Y W H (ups (W - 1)), []⟩) := by
  intro k
  induction k with
  | zero =>
    intro n hn h1
    obtain rfl : W = n := by omega
    rw [n55_8s]
    generalize ups (W - 1) = l at *
    cases l with
    | nil =>
      simp only [L55, H55, bx55, slL]
      simp (disch := first | omega | decide | assumption | simp [scal]) [runOps_nil, runOps_cons, runOpsF_nil, runOpsF_cons, fstS_some, fstF_some, opStep_eq, want_none, oStep_true, oStep_false, fin_pure, fin_read, fin_alloc, fin_write, storeB, wrN, cellV, addWr, o_move, o_assign, o_pick, o_alloc, o_box, o_load, o_store, o_nilCheck, o_bin, o_un, o_extract, o_callV, o_callB, o_callI, callV_f, callV_y, callV_fc, o_makeFunc, partsA, Instr.fill, builtin_len, builtin_max2, bin_add, bin_sub, bin_mul, bin_quo, bin_rem, bin_lss, bin_leq, bin_gtr, bin_geq, bin_eql, bin_neq, un_neg, un_not, opd, opds, optAll, lk, putO, put, has, rep, nbeq, nblt, constOk, isC, ops, sub, cl, cr, co, bodyOf, thenS_normal, thenS_ret, thenS_exit, thenS_goto, afterN_normal, afterN_ret, afterN_exit, afterN_goto, condS_true, condS_false, blockS_normal, blockS_ret, blockS_exit, blockS_goto, loopS_exit, loopS_ret, plainS_some, drawS_some, fpsOk, disj, unord, mem, range', dropTo, enumT, undef, wrap_i64_id, Value.cells, mkCells, ptrTo, scal, cellsAt, rdN, endS_ret, resultsA, Option.bind_some, tupV, finish, reach, reachN, dep, ptrL_eq, ptrL, renL_eq, renL, ptrV_bool, ptrV_int, ptrV_string, ptrV_nilFunc, ptrV_nilIface, ptrV_nilPtr, ptrV_ptr, ptrV_nilSl, ptrV_sl, ptrV_iface, ptrV_agg, ptrV_tuple, ptrV_func, renV_bool, renV_int, renV_string, renV_nilFunc, renV_nilIface, renV_nilPtr, renV_ptr, renV_nilSl, renV_sl, renV_iface, renV_agg, renV_tuple, renV_func, o_fieldAddr fa_35_2 (by decide), loadA_eq ia_3, o_mkI ii_93, o_indexAddrS es_101, ze_101, o_buildSlice es_101 ze_101 (by decide) ba_101_1, ap_101, builtin_append ni_101, o_fieldAddr fa_35_3 (by decide), o_mkI ii_94, n55_1s, n55_3s, n55_6s, n55_11s, n55_13s, n55_14s, n55_12s, n55_10s, n55_17s, n55_16s, n55_18s, n55_15s, n55_9s, n55_7s, n55_5s, n55_21s, n55_26s, n55_28s, n55_29s, n55_27s, n55_25s, n55_32s, n55_31s, n55_33s, n55_30s, n55_24s, n55_22s, n55_20s, n55_35s, n55_36s, n55_34s, n55_19s, n55_4s, n55_2s, n55_0s, Try.f55]
    | cons q t =>
      simp only [L55, H55, bx55, slL]
      simp (disch := first | omega | decide | assumption | simp [scal]) [runOps_nil, runOps_cons, runOpsF_nil, runOpsF_cons, fstS_some, fstF_some, opStep_eq, want_none, oStep_true, oStep_false, fin_pure, fin_read, fin_alloc, fin_write, storeB, wrN, cellV, addWr, o_move, o_assign, o_pick, o_alloc, o_box, o_load, o_store, o_nilCheck, o_bin, o_un, o_extract, o_callV, o_callB, o_callI, callV_f, callV_y, callV_fc, o_makeFunc, partsA, Instr.fill, builtin_len, builtin_max2, bin_add, bin_sub, bin_mul, bin_quo, bin_rem, bin_lss, bin_leq, bin_gtr, bin_geq, bin_eql, bin_neq, un_neg, un_not, opd, opds, optAll, lk, putO, put, has, rep, nbeq, nblt, constOk, isC, ops, sub, cl, cr, co, bodyOf, thenS_normal, thenS_ret, thenS_exit, thenS_goto, afterN_normal, afterN_ret, afterN_exit, afterN_goto, condS_true, condS_false, blockS_normal, blockS_ret, blockS_exit, blockS_goto, loopS_exit, loopS_ret, plainS_some, drawS_some, fpsOk, disj, unord, mem, range', dropTo, enumT, undef, wrap_i64_id, Value.cells, mkCells, ptrTo, scal, cellsAt, rdN, endS_ret, resultsA, Option.bind_some, tupV, finish, reach, reachN, dep, ptrL_eq, ptrL, renL_eq, renL, ptrV_bool, ptrV_int, ptrV_string, ptrV_nilFunc, ptrV_nilIface, ptrV_nilPtr, ptrV_ptr, ptrV_nilSl, ptrV_sl, ptrV_iface, ptrV_agg, ptrV_tuple, ptrV_func, renV_bool, renV_int, renV_string, renV_nilFunc, renV_nilIface, renV_nilPtr, renV_ptr, renV_nilSl, renV_sl, renV_iface, renV_agg, renV_tuple, renV_func, o_fieldAddr fa_35_2 (by decide), loadA_eq ia_3, o_mkI ii_93, o_indexAddrS es_101, ze_101, o_buildSlice es_101 ze_101 (by decide) ba_101_1, ap_101, builtin_append ni_101, o_fieldAddr fa_35_3 (by decide), o_mkI ii_94, n55_1s, n55_3s, n55_6s, n55_11s, n55_13s, n55_14s, n55_12s, n55_10s, n55_17s, n55_16s, n55_18s, n55_15s, n55_9s, n55_7s, n55_5s, n55_21s, n55_26s, n55_28s, n55_29s, n55_27s, n55_25s, n55_32s, n55_31s, n55_33s, n55_30s, n55_24s, n55_22s, n55_20s, n55_35s, n55_36s, n55_34s, n55_19s, n55_4s, n55_2s, n55_0s, Try.f55]
  | succ k ih =>
    intro n hn h1
    have this := L_code (ih (n + 1) (by omega) (by omega))
    have e1 : n < W := by omega
    have e2 : ups (n + 1 - 1) = ups (n - 1) ++ [(true, n)] := by
      obtain ⟨m, rfl⟩ : ∃ m, n = m + 1 := ⟨n - 1, by omega⟩
      simp [ups, levs, List.range_succ]
    have hl : (ups (n - 1)).length ≤ 1000 := by simp [ups, levs]; omega
    rw [e2] at this
    rw [n55_8s]
    generalize ups (n - 1) = l at *
    cases l with
    | nil =>
      simp only [L55, H55, bx55, slL, List.nil_append, cast1, linB, lv_t, lv_f, List.map_cons, List.map_nil, List.length_nil] at this ⊢
      simp (disch := first | omega | decide | assumption | simp [scal]) [runOps_nil, runOps_cons, runOpsF_nil, runOpsF_cons, fstS_some, fstF_some, opStep_eq, want_none, oStep_true, oStep_false, fin_pure, fin_read, fin_alloc, fin_write, storeB, wrN, cellV, addWr, o_move, o_assign, o_pick, o_alloc, o_box, o_load, o_store, o_nilCheck, o_bin, o_un, o_extract, o_callV, o_callB, o_callI, callV_f, callV_y, callV_fc, o_makeFunc, partsA, Instr.fill, builtin_len, builtin_max2, bin_add, bin_sub, bin_mul, bin_quo, bin_rem, bin_lss, bin_leq, bin_gtr, bin_geq, bin_eql, bin_neq, un_neg, un_not, opd, opds, optAll, lk, putO, put, has, rep, nbeq, nblt, constOk, isC, ops, sub, cl, cr, co, bodyOf, thenS_normal, thenS_ret, thenS_exit, thenS_goto, afterN_normal, afterN_ret, afterN_exit, afterN_goto, condS_true, condS_false, blockS_normal, blockS_ret, blockS_exit, blockS_goto, loopS_exit, loopS_ret, plainS_some, drawS_some, fpsOk, disj, unord, mem, range', dropTo, enumT, undef, wrap_i64_id, Value.cells, mkCells, ptrTo, scal, cellsAt, rdN, endS_ret, resultsA, Option.bind_some, tupV, finish, reach, reachN, dep, ptrL_eq, ptrL, renL_eq, renL, ptrV_bool, ptrV_int, ptrV_string, ptrV_nilFunc, ptrV_nilIface, ptrV_nilPtr, ptrV_ptr, ptrV_nilSl, ptrV_sl, ptrV_iface, ptrV_agg, ptrV_tuple, ptrV_func, renV_bool, renV_int, renV_string, renV_nilFunc, renV_nilIface, renV_nilPtr, renV_ptr, renV_nilSl, renV_sl, renV_iface, renV_agg, renV_tuple, renV_func, o_fieldAddr fa_35_2 (by decide), loadA_eq ia_3, o_mkI ii_93, o_indexAddrS es_101, ze_101, o_buildSlice es_101 ze_101 (by decide) ba_101_1, ap_101, builtin_append ni_101, o_fieldAddr fa_35_3 (by decide), o_mkI ii_94, n55_1s, n55_3s, n55_6s, n55_11s, n55_13s, n55_14s, n55_12s, n55_10s, n55_17s, n55_16s, n55_18s, n55_15s, n55_9s, n55_7s, n55_5s, n55_21s, n55_26s, n55_28s, n55_29s, n55_27s, n55_25s, n55_32s, n55_31s, n55_33s, n55_30s, n55_24s, n55_22s, n55_20s, n55_35s, n55_36s, n55_34s, n55_19s, n55_4s, n55_2s, n55_0s, Try.f55, e1, loopS_grow, sweep, ptrT, renT, optAll, renB_flat, renB_non, ptrB_flat, ptrB_non, idx, ptrB_lin, renB_lin, append_nil ap_101, appN, srcCells, this]
    | cons q t =>
      have c1 := fun h b c rd => app_lin (h := h) (b := b) (c := c) (q := q) (t := t) (p := (true, n)) (rd := rd) hl
      simp only [lv_t, lv_f] at c1
      simp only [L55, H55, bx55, slL, List.cons_append, List.length_append, List.length_cons, List.length_nil, Nat.zero_add, cast1] at this ⊢
      simp (disch := first | omega | decide | assumption | simp [scal]) [runOps_nil, runOps_cons, runOpsF_nil, runOpsF_cons, fstS_some, fstF_some, opStep_eq, want_none, oStep_true, oStep_false, fin_pure, fin_read, fin_alloc, fin_write, storeB, wrN, cellV, addWr, o_move, o_assign, o_pick, o_alloc, o_box, o_load, o_store, o_nilCheck, o_bin, o_un, o_extract, o_callV, o_callB, o_callI, callV_f, callV_y, callV_fc, o_makeFunc, partsA, Instr.fill, builtin_len, builtin_max2, bin_add, bin_sub, bin_mul, bin_quo, bin_rem, bin_lss, bin_leq, bin_gtr, bin_geq, bin_eql, bin_neq, un_neg, un_not, opd, opds, optAll, lk, putO, put, has, rep, nbeq, nblt, constOk, isC, ops, sub, cl, cr, co, bodyOf, thenS_normal, thenS_ret, thenS_exit, thenS_goto, afterN_normal, afterN_ret, afterN_exit, afterN_goto, condS_true, condS_false, blockS_normal, blockS_ret, blockS_exit, blockS_goto, loopS_exit, loopS_ret, plainS_some, drawS_some, fpsOk, disj, unord, mem, range', dropTo, enumT, undef, wrap_i64_id, Value.cells, mkCells, ptrTo, scal, cellsAt, rdN, endS_ret, resultsA, Option.bind_some, tupV, finish, reach, reachN, dep, ptrL_eq, ptrL, renL_eq, renL, ptrV_bool, ptrV_int, ptrV_string, ptrV_nilFunc, ptrV_nilIface, ptrV_nilPtr, ptrV_ptr, ptrV_nilSl, ptrV_sl, ptrV_iface, ptrV_agg, ptrV_tuple, ptrV_func, renV_bool, renV_int, renV_string, renV_nilFunc, renV_nilIface, renV_nilPtr, renV_ptr, renV_nilSl, renV_sl, renV_iface, renV_agg, renV_tuple, renV_func, o_fieldAddr fa_35_2 (by decide), loadA_eq ia_3, o_mkI ii_93, o_indexAddrS es_101, ze_101, o_buildSlice es_101 ze_101 (by decide) ba_101_1, ap_101, builtin_append ni_101, o_fieldAddr fa_35_3 (by decide), o_mkI ii_94, n55_1s, n55_3s, n55_6s, n55_11s, n55_13s, n55_14s, n55_12s, n55_10s, n55_17s, n55_16s, n55_18s, n55_15s, n55_9s, n55_7s, n55_5s, n55_21s, n55_26s, n55_28s, n55_29s, n55_27s, n55_25s, n55_32s, n55_31s, n55_33s, n55_30s, n55_24s, n55_22s, n55_20s, n55_35s, n55_36s, n55_34s, n55_19s, n55_4s, n55_2s, n55_0s, Try.f55, e1, loopS_grow, sweep, ptrT, renT, optAll, renB_flat, renB_non, ptrB_flat, ptrB_non, idx, ptrB_lin, renB_lin, append_some ap_101, srcCells, c1, this]
theorem l55b (hW : W ≤ 100 ∧ H ≤ 100) (hp : 1 ≤ H) : ∀ k n : Nat, n + k = H → 1 ≤ n →
    codeB Try.prog LL ⟨55, 29, 0, none⟩ n55_23 ⟨((5, iv n) :: L55 X Y W H W (ups (W - 1) ++ levs (n - 1))), H55 X Y W H (ups (W - 1) ++ levs (n - 1)), []⟩ =
      some (.exit 2, ⟨(20, .bool false) :: (19, iv H) :: (18, .pointer (some ⟨bx55 (ups (W - 1) ++ levs (H - 1)), 3, none⟩)) :: (17, iv H) :: ((5, iv H) :: L55 X Y W H W (ups (W - 1) ++ levs (H - 1))), H55 X Y W H (ups (W - 1) ++ levs (H - 1)), []⟩) := by
  intro k
  induction k with
  | zero =>
    intro n hn h1
    obtain rfl : H = n := by omega
    rw [n55_23s]
    generalize ups (W - 1) ++ levs (H - 1) = l at *
    cases l with
    | nil =>
      simp only [L55, H55, bx55, slL]
      simp (disch := first | omega | decide | assumption | simp [scal]) [runOps_nil, runOps_cons, runOpsF_nil, runOpsF_cons, fstS_some, fstF_some, opStep_eq, want_none, oStep_true, oStep_false, fin_pure, fin_read, fin_alloc, fin_write, storeB, wrN, cellV, addWr, o_move, o_assign, o_pick, o_alloc, o_box, o_load, o_store, o_nilCheck, o_bin, o_un, o_extract, o_callV, o_callB, o_callI, callV_f, callV_y, callV_fc, o_makeFunc, partsA, Instr.fill, builtin_len, builtin_max2, bin_add, bin_sub, bin_mul, bin_quo, bin_rem, bin_lss, bin_leq, bin_gtr, bin_geq, bin_eql, bin_neq, un_neg, un_not, opd, opds, optAll, lk, putO, put, has, rep, nbeq, nblt, constOk, isC, ops, sub, cl, cr, co, bodyOf, thenS_normal, thenS_ret, thenS_exit, thenS_goto, afterN_normal, afterN_ret, afterN_exit, afterN_goto, condS_true, condS_false, blockS_normal, blockS_ret, blockS_exit, blockS_goto, loopS_exit, loopS_ret, plainS_some, drawS_some, fpsOk, disj, unord, mem, range', dropTo, enumT, undef, wrap_i64_id, Value.cells, mkCells, ptrTo, scal, cellsAt, rdN, endS_ret, resultsA, Option.bind_some, tupV, finish, reach, reachN, dep, ptrL_eq, ptrL, renL_eq, renL, ptrV_bool, ptrV_int, ptrV_string, ptrV_nilFunc, ptrV_nilIface, ptrV_nilPtr, ptrV_ptr, ptrV_nilSl, ptrV_sl, ptrV_iface, ptrV_agg, ptrV_tuple, ptrV_func, renV_bool, renV_int, renV_string, renV_nilFunc, renV_nilIface, renV_nilPtr, renV_ptr, renV_nilSl, renV_sl, renV_iface, renV_agg, renV_tuple, renV_func, o_fieldAddr fa_35_2 (by decide), loadA_eq ia_3, o_mkI ii_93, o_indexAddrS es_101, ze_101, o_buildSlice es_101 ze_101 (by decide) ba_101_1, ap_101, builtin_append ni_101, o_fieldAddr fa_35_3 (by decide), o_mkI ii_94, n55_1s, n55_3s, n55_6s, n55_11s, n55_13s, n55_14s, n55_12s, n55_10s, n55_17s, n55_16s, n55_18s, n55_15s, n55_9s, n55_7s, n55_5s, n55_21s, n55_26s, n55_28s, n55_29s, n55_27s, n55_25s, n55_32s, n55_31s, n55_33s, n55_30s, n55_24s, n55_22s, n55_20s, n55_35s, n55_36s, n55_34s, n55_19s, n55_4s, n55_2s, n55_0s, Try.f55]
    | cons q t =>
      simp only [L55, H55, bx55, slL]
      simp (disch := first | omega | decide | assumption | simp [scal]) [runOps_nil, runOps_cons, runOpsF_nil, runOpsF_cons, fstS_some, fstF_some, opStep_eq, want_none, oStep_true, oStep_false, fin_pure, fin_read, fin_alloc, fin_write, storeB, wrN, cellV, addWr, o_move, o_assign, o_pick, o_alloc, o_box, o_load, o_store, o_nilCheck, o_bin, o_un, o_extract, o_callV, o_callB, o_callI, callV_f, callV_y, callV_fc, o_makeFunc, partsA, Instr.fill, builtin_len, builtin_max2, bin_add, bin_sub, bin_mul, bin_quo, bin_rem, bin_lss, bin_leq, bin_gtr, bin_geq, bin_eql, bin_neq, un_neg, un_not, opd, opds, optAll, lk, putO, put, has, rep, nbeq, nblt, constOk, isC, ops, sub, cl, cr, co, bodyOf, thenS_normal, thenS_ret, thenS_exit, thenS_goto, afterN_normal, afterN_ret, afterN_exit, afterN_goto, condS_true, condS_false, blockS_normal, blockS_ret, blockS_exit, blockS_goto, loopS_exit, loopS_ret, plainS_some, drawS_some, fpsOk, disj, unord, mem, range', dropTo, enumT, undef, wrap_i64_id, Value.cells, mkCells, ptrTo, scal, cellsAt, rdN, endS_ret, resultsA, Option.bind_some, tupV, finish, reach, reachN, dep, ptrL_eq, ptrL, renL_eq, renL, ptrV_bool, ptrV_int, ptrV_string, ptrV_nilFunc, ptrV_nilIface, ptrV_nilPtr, ptrV_ptr, ptrV_nilSl, ptrV_sl, ptrV_iface, ptrV_agg, ptrV_tuple, ptrV_func, renV_bool, renV_int, renV_string, renV_nilFunc, renV_nilIface, renV_nilPtr, renV_ptr, renV_nilSl, renV_sl, renV_iface, renV_agg, renV_tuple, renV_func, o_fieldAddr fa_35_2 (by decide), loadA_eq ia_3, o_mkI ii_93, o_indexAddrS es_101, ze_101, o_buildSlice es_101 ze_101 (by decide) ba_101_1, ap_101, builtin_append ni_101, o_fieldAddr fa_35_3 (by decide), o_mkI ii_94, n55_1s, n55_3s, n55_6s, n55_11s, n55_13s, n55_14s, n55_12s, n55_10s, n55_17s, n55_16s, n55_18s, n55_15s, n55_9s, n55_7s, n55_5s, n55_21s, n55_26s, n55_28s, n55_29s, n55_27s, n55_25s, n55_32s, n55_31s, n55_33s, n55_30s, n55_24s, n55_22s, n55_20s, n55_35s, n55_36s, n55_34s, n55_19s, n55_4s, n55_2s, n55_0s, Try.f55]
  | succ k ih =>
    intro n hn h1
    have this := L_code (ih (n + 1) (by omega) (by omega))
    have e1 : n < H := by omega
    have e2 : ups (W - 1) ++ levs (n + 1 - 1) = ups (W - 1) ++ levs (n - 1) ++ [(false, n)] := by
      obtain ⟨m, rfl⟩ : ∃ m, n = m + 1 := ⟨n - 1, by omega⟩
      simp [ups, levs, List.range_succ]
    have hl : (ups (W - 1) ++ levs (n - 1)).length ≤ 1000 := by simp [ups, levs]; omega
    rw [e2] at this
    rw [n55_23s]
    generalize ups (W - 1) ++ levs (n - 1) = l at *
    cases l with
    | nil =>
      simp only [L55, H55, bx55, slL, List.nil_append, cast1, linB, lv_t, lv_f, List.map_cons, List.map_nil, List.length_nil] at this ⊢
      simp (disch := first | omega | decide | assumption | simp [scal]) [runOps_nil, runOps_cons, runOpsF_nil, runOpsF_cons, fstS_some, fstF_some, opStep_eq, want_none, oStep_true, oStep_false, fin_pure, fin_read, fin_alloc, fin_write, storeB, wrN, cellV, addWr, o_move, o_assign, o_pick, o_alloc, o_box, o_load, o_store, o_nilCheck, o_bin, o_un, o_extract, o_callV, o_callB, o_callI, callV_f, callV_y, callV_fc, o_makeFunc, partsA, Instr.fill, builtin_len, builtin_max2, bin_add, bin_sub, bin_mul, bin_quo, bin_rem, bin_lss, bin_leq, bin_gtr, bin_geq, bin_eql, bin_neq, un_neg, un_not, opd, opds, optAll, lk, putO, put, has, rep, nbeq, nblt, constOk, isC, ops, sub, cl, cr, co, bodyOf, thenS_normal, thenS_ret, thenS_exit, thenS_goto, afterN_normal, afterN_ret, afterN_exit, afterN_goto, condS_true, condS_false, blockS_normal, blockS_ret, blockS_exit, blockS_goto, loopS_exit, loopS_ret, plainS_some, drawS_some, fpsOk, disj, unord, mem, range', dropTo, enumT, undef, wrap_i64_id, Value.cells, mkCells, ptrTo, scal, cellsAt, rdN, endS_ret, resultsA, Option.bind_some, tupV, finish, reach, reachN, dep, ptrL_eq, ptrL, renL_eq, renL, ptrV_bool, ptrV_int, ptrV_string, ptrV_nilFunc, ptrV_nilIface, ptrV_nilPtr, ptrV_ptr, ptrV_nilSl, ptrV_sl, ptrV_iface, ptrV_agg, ptrV_tuple, ptrV_func, renV_bool, renV_int, renV_string, renV_nilFunc, renV_nilIface, renV_nilPtr, renV_ptr, renV_nilSl, renV_sl, renV_iface, renV_agg, renV_tuple, renV_func, o_fieldAddr fa_35_2 (by decide), loadA_eq ia_3, o_mkI ii_93, o_indexAddrS es_101, ze_101, o_buildSlice es_101 ze_101 (by decide) ba_101_1, ap_101, builtin_append ni_101, o_fieldAddr fa_35_3 (by decide), o_mkI ii_94, n55_1s, n55_3s, n55_6s, n55_11s, n55_13s, n55_14s, n55_12s, n55_10s, n55_17s, n55_16s, n55_18s, n55_15s, n55_9s, n55_7s, n55_5s, n55_21s, n55_26s, n55_28s, n55_29s, n55_27s, n55_25s, n55_32s, n55_31s, n55_33s, n55_30s, n55_24s, n55_22s, n55_20s, n55_35s, n55_36s, n55_34s, n55_19s, n55_4s, n55_2s, n55_0s, Try.f55, e1, loopS_grow, sweep, ptrT, renT, optAll, renB_flat, renB_non, ptrB_flat, ptrB_non, idx, ptrB_lin, renB_lin, append_nil ap_101, appN, srcCells, this]
    | cons q t =>
      have c1 := fun h b c rd => app_lin (h := h) (b := b) (c := c) (q := q) (t := t) (p := (false, n)) (rd := rd) hl
      simp only [lv_t, lv_f] at c1
      simp only [L55, H55, bx55, slL, List.cons_append, List.length_append, List.length_cons, List.length_nil, Nat.zero_add, cast1] at this ⊢
      simp (disch := first | omega | decide | assumption | simp [scal]) [runOps_nil, runOps_cons, runOpsF_nil, runOpsF_cons, fstS_some, fstF_some, opStep_eq, want_none, oStep_true, oStep_false, fin_pure, fin_read, fin_alloc, fin_write, storeB, wrN, cellV, addWr, o_move, o_assign, o_pick, o_alloc, o_box, o_load, o_store, o_nilCheck, o_bin, o_un, o_extract, o_callV, o_callB, o_callI, callV_f, callV_y, callV_fc, o_makeFunc, partsA, Instr.fill, builtin_len, builtin_max2, bin_add, bin_sub, bin_mul, bin_quo, bin_rem, bin_lss, bin_leq, bin_gtr, bin_geq, bin_eql, bin_neq, un_neg, un_not, opd, opds, optAll, lk, putO, put, has, rep, nbeq, nblt, constOk, isC, ops, sub, cl, cr, co, bodyOf, thenS_normal, thenS_ret, thenS_exit, thenS_goto, afterN_normal, afterN_ret, afterN_exit, afterN_goto, condS_true, condS_false, blockS_normal, blockS_ret, blockS_exit, blockS_goto, loopS_exit, loopS_ret, plainS_some, drawS_some, fpsOk, disj, unord, mem, range', dropTo, enumT, undef, wrap_i64_id, Value.cells, mkCells, ptrTo, scal, cellsAt, rdN, endS_ret, resultsA, Option.bind_some, tupV, finish, reach, reachN, dep, ptrL_eq, ptrL, renL_eq, renL, ptrV_bool, ptrV_int, ptrV_string, ptrV_nilFunc, ptrV_nilIface, ptrV_nilPtr, ptrV_ptr, ptrV_nilSl, ptrV_sl, ptrV_iface, ptrV_agg, ptrV_tuple, ptrV_func, renV_bool, renV_int, renV_string, renV_nilFunc, renV_nilIface, renV_nilPtr, renV_ptr, renV_nilSl, renV_sl, renV_iface, renV_agg, renV_tuple, renV_func, o_fieldAddr fa_35_2 (by decide), loadA_eq ia_3, o_mkI ii_93, o_indexAddrS es_101, ze_101, o_buildSlice es_101 ze_101 (by decide) ba_101_1, ap_101, builtin_append ni_101, o_fieldAddr fa_35_3 (by decide), o_mkI ii_94, n55_1s, n55_3s, n55_6s, n55_11s, n55_13s, n55_14s, n55_12s, n55_10s, n55_17s, n55_16s, n55_18s, n55_15s, n55_9s, n55_7s, n55_5s, n55_21s, n55_26s, n55_28s, n55_29s, n55_27s, n55_25s, n55_32s, n55_31s, n55_33s, n55_30s, n55_24s, n55_22s, n55_20s, n55_35s, n55_36s, n55_34s, n55_19s, n55_4s, n55_2s, n55_0s, Try.f55, e1, loopS_grow, sweep, ptrT, renT, optAll, renB_flat, renB_non, ptrB_flat, ptrB_non, idx, ptrB_lin, renB_lin, append_some ap_101, srcCells, c1, this]
theorem c55 (hW : 1 ≤ W ∧ W ≤ 100) (hH : 1 ≤ H ∧ H ≤ 100) : LL.run 55 [bv X Y W H] [] = some ⟨slL 0 (lineL W H), blL (lineL W H), []⟩ := by
  refine go (by decide) ?_
  rw [run55 _ _ _ (by simp)]
  have la := l55a X Y W H ⟨hW.2, hH.2⟩ hW.1 (W - 1) 1 (by omega) (by omega)
  have lb := l55b X Y W H ⟨hW.2, hH.2⟩ hH.1 (H - 1) 1 (by omega) (by omega)
  have e0 : ups (1 - 1) = [] := rfl
  have e1 : levs (1 - 1) = [] := rfl
  have e2 : ups (W - 1) ++ levs (H - 1) = lineL W H := rfl
  rw [e0] at la
  rw [e1, List.append_nil, e2] at lb
  generalize lineL W H = l at *
  generalize ups (W - 1) = u at *
  cases u <;> cases l <;> simp only [L55, H55, bx55, slL, Int.natCast_one, List.append_nil, List.nil_append] at la lb ⊢
  · simp (disch := first | omega | decide | assumption | simp [scal]) [runOps_nil, runOps_cons, runOpsF_nil, runOpsF_cons, fstS_some, fstF_some, opStep_eq, want_none, oStep_true, oStep_false, fin_pure, fin_read, fin_alloc, fin_write, storeB, wrN, cellV, addWr, o_move, o_assign, o_pick, o_alloc, o_box, o_load, o_store, o_nilCheck, o_bin, o_un, o_extract, o_callV, o_callB, o_callI, callV_f, callV_y, callV_fc, o_makeFunc, partsA, Instr.fill, builtin_len, builtin_max2, bin_add, bin_sub, bin_mul, bin_quo, bin_rem, bin_lss, bin_leq, bin_gtr, bin_geq, bin_eql, bin_neq, un_neg, un_not, opd, opds, optAll, lk, putO, put, has, rep, nbeq, nblt, constOk, isC, ops, sub, cl, cr, co, bodyOf, thenS_normal, thenS_ret, thenS_exit, thenS_goto, afterN_normal, afterN_ret, afterN_exit, afterN_goto, condS_true, condS_false, blockS_normal, blockS_ret, blockS_exit, blockS_goto, loopS_exit, loopS_ret, plainS_some, drawS_some, fpsOk, disj, unord, mem, range', dropTo, enumT, undef, wrap_i64_id, Value.cells, mkCells, ptrTo, scal, cellsAt, rdN, endS_ret, resultsA, Option.bind_some, tupV, finish, reach, reachN, dep, ptrL_eq, ptrL, renL_eq, renL, ptrV_bool, ptrV_int, ptrV_string, ptrV_nilFunc, ptrV_nilIface, ptrV_nilPtr, ptrV_ptr, ptrV_nilSl, ptrV_sl, ptrV_iface, ptrV_agg, ptrV_tuple, ptrV_func, renV_bool, renV_int, renV_string, renV_nilFunc, renV_nilIface, renV_nilPtr, renV_ptr, renV_nilSl, renV_sl, renV_iface, renV_agg, renV_tuple, renV_func, o_fieldAddr fa_35_2 (by decide), loadA_eq ia_3, o_mkI ii_93, o_indexAddrS es_101, ze_101, o_buildSlice es_101 ze_101 (by decide) ba_101_1, ap_101, builtin_append ni_101, o_fieldAddr fa_35_3 (by decide), o_mkI ii_94, n55_1s, n55_3s, n55_6s, n55_11s, n55_13s, n55_14s, n55_12s, n55_10s, n55_17s, n55_16s, n55_18s, n55_15s, n55_9s, n55_7s, n55_5s, n55_21s, n55_26s, n55_28s, n55_29s, n55_27s, n55_25s, n55_32s, n55_31s, n55_33s, n55_30s, n55_24s, n55_22s, n55_20s, n55_35s, n55_36s, n55_34s, n55_19s, n55_4s, n55_2s, n55_0s, Try.f55, la, lb, blL]
  · simp (disch := first | omega | decide | assumption | simp [scal]) [runOps_nil, runOps_cons, runOpsF_nil, runOpsF_cons, fstS_some, fstF_some, opStep_eq, want_none, oStep_true, oStep_false, fin_pure, fin_read, fin_alloc, fin_write, storeB, wrN, cellV, addWr, o_move, o_assign, o_pick, o_alloc, o_box, o_load, o_store, o_nilCheck, o_bin, o_un, o_extract, o_callV, o_callB, o_callI, callV_f, callV_y, callV_fc, o_makeFunc, partsA, Instr.fill, builtin_len, builtin_max2, bin_add, bin_sub, bin_mul, bin_quo, bin_rem, bin_lss, bin_leq, bin_gtr, bin_geq, bin_eql, bin_neq, un_neg, un_not, opd, opds, optAll, lk, putO, put, has, rep, nbeq, nblt, constOk, isC, ops, sub, cl, cr, co, bodyOf, thenS_normal, thenS_ret, thenS_exit, thenS_goto, afterN_normal, afterN_ret, afterN_exit, afterN_goto, condS_true, condS_false, blockS_normal, blockS_ret, blockS_exit, blockS_goto, loopS_exit, loopS_ret, plainS_some, drawS_some, fpsOk, disj, unord, mem, range', dropTo, enumT, undef, wrap_i64_id, Value.cells, mkCells, ptrTo, scal, cellsAt, rdN, endS_ret, resultsA, Option.bind_some, tupV, finish, reach, reachN, dep, ptrL_eq, ptrL, renL_eq, renL, ptrV_bool, ptrV_int, ptrV_string, ptrV_nilFunc, ptrV_nilIface, ptrV_nilPtr, ptrV_ptr, ptrV_nilSl, ptrV_sl, ptrV_iface, ptrV_agg, ptrV_tuple, ptrV_func, renV_bool, renV_int, renV_string, renV_nilFunc, renV_nilIface, renV_nilPtr, renV_ptr, renV_nilSl, renV_sl, renV_iface, renV_agg, renV_tuple, renV_func, o_fieldAddr fa_35_2 (by decide), loadA_eq ia_3, o_mkI ii_93, o_indexAddrS es_101, ze_101, o_buildSlice es_101 ze_101 (by decide) ba_101_1, ap_101, builtin_append ni_101, o_fieldAddr fa_35_3 (by decide), o_mkI ii_94, n55_1s, n55_3s, n55_6s, n55_11s, n55_13s, n55_14s, n55_12s, n55_10s, n55_17s, n55_16s, n55_18s, n55_15s, n55_9s, n55_7s, n55_5s, n55_21s, n55_26s, n55_28s, n55_29s, n55_27s, n55_25s, n55_32s, n55_31s, n55_33s, n55_30s, n55_24s, n55_22s, n55_20s, n55_35s, n55_36s, n55_34s, n55_19s, n55_4s, n55_2s, n55_0s, Try.f55, la, lb, blL, optAll, ptrB_lin, renB_lin, idx]
  · simp (disch := first | omega | decide | assumption | simp [scal]) [runOps_nil, runOps_cons, runOpsF_nil, runOpsF_cons, fstS_some, fstF_some, opStep_eq, want_none, oStep_true, oStep_false, fin_pure, fin_read, fin_alloc, fin_write, storeB, wrN, cellV, addWr, o_move, o_assign, o_pick, o_alloc, o_box, o_load, o_store, o_nilCheck, o_bin, o_un, o_extract, o_callV, o_callB, o_callI, callV_f, callV_y, callV_fc, o_makeFunc, partsA, Instr.fill, builtin_len, builtin_max2, bin_add, bin_sub, bin_mul, bin_quo, bin_rem, bin_lss, bin_leq, bin_gtr, bin_geq, bin_eql, bin_neq, un_neg, un_not, opd, opds, optAll, lk, putO, put, has, rep, nbeq, nblt, constOk, isC, ops, sub, cl, cr, co, bodyOf, thenS_normal, thenS_ret, thenS_exit, thenS_goto, afterN_normal, afterN_ret, afterN_exit, afterN_goto, condS_true, condS_false, blockS_normal, blockS_ret, blockS_exit, blockS_goto, loopS_exit, loopS_ret, plainS_some, drawS_some, fpsOk, disj, unord, mem, range', dropTo, enumT, undef, wrap_i64_id, Value.cells, mkCells, ptrTo, scal, cellsAt, rdN, endS_ret, resultsA, Option.bind_some, tupV, finish, reach, reachN, dep, ptrL_eq, ptrL, renL_eq, renL, ptrV_bool, ptrV_int, ptrV_string, ptrV_nilFunc, ptrV_nilIface, ptrV_nilPtr, ptrV_ptr, ptrV_nilSl, ptrV_sl, ptrV_iface, ptrV_agg, ptrV_tuple, ptrV_func, renV_bool, renV_int, renV_string, renV_nilFunc, renV_nilIface, renV_nilPtr, renV_ptr, renV_nilSl, renV_sl, renV_iface, renV_agg, renV_tuple, renV_func, o_fieldAddr fa_35_2 (by decide), loadA_eq ia_3, o_mkI ii_93, o_indexAddrS es_101, ze_101, o_buildSlice es_101 ze_101 (by decide) ba_101_1, ap_101, builtin_append ni_101, o_fieldAddr fa_35_3 (by decide), o_mkI ii_94, n55_1s, n55_3s, n55_6s, n55_11s, n55_13s, n55_14s, n55_12s, n55_10s, n55_17s, n55_16s, n55_18s, n55_15s, n55_9s, n55_7s, n55_5s, n55_21s, n55_26s, n55_28s, n55_29s, n55_27s, n55_25s, n55_32s, n55_31s, n55_33s, n55_30s, n55_24s, n55_22s, n55_20s, n55_35s, n55_36s, n55_34s, n55_19s, n55_4s, n55_2s, n55_0s, Try.f55, la, lb, blL]
  · simp (disch := first | omega | decide | assumption | simp [scal]) [runOps_nil, runOps_cons, runOpsF_nil, runOpsF_cons, fstS_some, fstF_some, opStep_eq, want_none, oStep_true, oStep_false, fin_pure, fin_read, fin_alloc, fin_write, storeB, wrN, cellV, addWr, o_move, o_assign, o_pick, o_alloc, o_box, o_load, o_store, o_nilCheck, o_bin, o_un, o_extract, o_callV, o_callB, o_callI, callV_f, callV_y, callV_fc, o_makeFunc, partsA, Instr.fill, builtin_len, builtin_max2, bin_add, bin_sub, bin_mul, bin_quo, bin_rem, bin_lss, bin_leq, bin_gtr, bin_geq, bin_eql, bin_neq, un_neg, un_not, opd, opds, optAll, lk, putO, put, has, rep, nbeq, nblt, constOk, isC, ops, sub, cl, cr, co, bodyOf, thenS_normal, thenS_ret, thenS_exit, thenS_goto, afterN_normal, afterN_ret, afterN_exit, afterN_goto, condS_true, condS_false, blockS_normal, blockS_ret, blockS_exit, blockS_goto, loopS_exit, loopS_ret, plainS_some, drawS_some, fpsOk, disj, unord, mem, range', dropTo, enumT, undef, wrap_i64_id, Value.cells, mkCells, ptrTo, scal, cellsAt, rdN, endS_ret, resultsA, Option.bind_some, tupV, finish, reach, reachN, dep, ptrL_eq, ptrL, renL_eq, renL, ptrV_bool, ptrV_int, ptrV_string, ptrV_nilFunc, ptrV_nilIface, ptrV_nilPtr, ptrV_ptr, ptrV_nilSl, ptrV_sl, ptrV_iface, ptrV_agg, ptrV_tuple, ptrV_func, renV_bool, renV_int, renV_string, renV_nilFunc, renV_nilIface, renV_nilPtr, renV_ptr, renV_nilSl, renV_sl, renV_iface, renV_agg, renV_tuple, renV_func, o_fieldAddr fa_35_2 (by decide), loadA_eq ia_3, o_mkI ii_93, o_indexAddrS es_101, ze_101, o_buildSlice es_101 ze_101 (by decide) ba_101_1, ap_101, builtin_append ni_101, o_fieldAddr fa_35_3 (by decide), o_mkI ii_94, n55_1s, n55_3s, n55_6s, n55_11s, n55_13s, n55_14s, n55_12s, n55_10s, n55_17s, n55_16s, n55_18s, n55_15s, n55_9s, n55_7s, n55_5s, n55_21s, n55_26s, n55_28s, n55_29s, n55_27s, n55_25s, n55_32s, n55_31s, n55_33s, n55_30s, n55_24s, n55_22s, n55_20s, n55_35s, n55_36s, n55_34s, n55_19s, n55_4s, n55_2s, n55_0s, Try.f55, la, lb, blL, optAll, ptrB_lin, renB_lin, idx]
end
end Go.Proofs.Ytgpcjdhlijompaa.ore
namespace Go.Proofs.Ytgpcjdhlijompaa.ore
open Go.GE
set_option linter.unusedVariables false
set_option linter.unusedSimpArgs false
set_option maxRecDepth 100000
theorem callH_pure {E : Ev} {f : FuncId} {args : List Value} {v : Value} {h : List Blk} (he : E.run f args [] = some ⟨v, [], []⟩) (ha : args.all plain = true) (hv : ∀ g, renV g dep v = some v) : callH E f args h = some ⟨v, h, [], []⟩ := by
  unfold callH
  simp only [ptr_plains ha]
  have hr : reach h 0 reachN [] [] = [] := rfl
  simp only [hr, ren_plains ha, optAll, he]
  simp [mergeB, hv, optAll]
section
variable (n X Y W H : Int) (h : List Blk)
theorem k72 (hs : small H) : callH LL 72 [iv n, bv X Y W H] h = some ⟨iv (H - 1), h, [], []⟩ := by
  obtain ⟨h1, h2⟩ := hs
  refine callH_pure (go (by decide) ?_) rfl (fun g => rfl)
  rw [run72 _ _ _ (by simp)]
  simp (disch := first | omega | decide | assumption | simp [scal]) [runOps_nil, runOps_cons, runOpsF_nil, runOpsF_cons, fstS_some, fstF_some, opStep_eq, want_none, oStep_true, oStep_false, fin_pure, fin_read, fin_alloc, fin_write, storeB, wrN, cellV, addWr, o_move, o_assign, o_pick, o_alloc, o_box, o_load, o_store, o_nilCheck, o_bin, o_un, o_extract, o_callV, o_callB, o_callI, callV_f, callV_y, callV_fc, o_makeFunc, partsA, Instr.fill, builtin_len, builtin_max2, bin_add, bin_sub, bin_mul, bin_quo, bin_rem, bin_lss, bin_leq, bin_gtr, bin_geq, bin_eql, bin_neq, un_neg, un_not, opd, opds, optAll, lk, putO, put, has, rep, nbeq, nblt, constOk, isC, ops, sub, cl, cr, co, bodyOf, thenS_normal, thenS_ret, thenS_exit, thenS_goto, afterN_normal, afterN_ret, afterN_exit, afterN_goto, condS_true, condS_false, blockS_normal, blockS_ret, blockS_exit, blockS_goto, loopS_exit, loopS_ret, plainS_some, drawS_some, fpsOk, disj, unord, mem, range', dropTo, enumT, undef, wrap_i64_id, Value.cells, mkCells, ptrTo, scal, cellsAt, rdN, endS_ret, resultsA, Option.bind_some, tupV, finish, reach, reachN, dep, ptrL_eq, ptrL, renL_eq, renL, ptrV_bool, ptrV_int, ptrV_string, ptrV_nilFunc, ptrV_nilIface, ptrV_nilPtr, ptrV_ptr, ptrV_nilSl, ptrV_sl, ptrV_iface, ptrV_agg, ptrV_tuple, ptrV_func, renV_bool, renV_int, renV_string, renV_nilFunc, renV_nilIface, renV_nilPtr, renV_ptr, renV_nilSl, renV_sl, renV_iface, renV_agg, renV_tuple, renV_func, o_fieldAddr fa_35_3 (by decide), loadA_eq ia_3, n72_1s, n72_3s, n72_4s, n72_2s, n72_0s, Try.f72]
theorem k74 (hs : small W) : callH LL 74 [iv n, bv X Y W H] h = some ⟨iv (W - 1), h, [], []⟩ := by
  obtain ⟨h1, h2⟩ := hs
  refine callH_pure (go (by decide) ?_) rfl (fun g => rfl)
  rw [run74 _ _ _ (by simp)]
  simp (disch := first | omega | decide | assumption | simp [scal]) [runOps_nil, runOps_cons, runOpsF_nil, runOpsF_cons, fstS_some, fstF_some, opStep_eq, want_none, oStep_true, oStep_false, fin_pure, fin_read, fin_alloc, fin_write, storeB, wrN, cellV, addWr, o_move, o_assign, o_pick, o_alloc, o_box, o_load, o_store, o_nilCheck, o_bin, o_un, o_extract, o_callV, o_callB, o_callI, callV_f, callV_y, callV_fc, o_makeFunc, partsA, Instr.fill, builtin_len, builtin_max2, bin_add, bin_sub, bin_mul, bin_quo, bin_rem, bin_lss, bin_leq, bin_gtr, bin_geq, bin_eql, bin_neq, un_neg, un_not, opd, opds, optAll, lk, putO, put, has, rep, nbeq, nblt, constOk, isC, ops, sub, cl, cr, co, bodyOf, thenS_normal, thenS_ret, thenS_exit, thenS_goto, afterN_normal, afterN_ret, afterN_exit, afterN_goto, condS_true, condS_false, blockS_normal, blockS_ret, blockS_exit, blockS_goto, loopS_exit, loopS_ret, plainS_some, drawS_some, fpsOk, disj, unord, mem, range', dropTo, enumT, undef, wrap_i64_id, Value.cells, mkCells, ptrTo, scal, cellsAt, rdN, endS_ret, resultsA, Option.bind_some, tupV, finish, reach, reachN, dep, ptrL_eq, ptrL, renL_eq, renL, ptrV_bool, ptrV_int, ptrV_string, ptrV_nilFunc, ptrV_nilIface, ptrV_nilPtr, ptrV_ptr, ptrV_nilSl, ptrV_sl, ptrV_iface, ptrV_agg, ptrV_tuple, ptrV_func, renV_bool, renV_int, renV_string, renV_nilFunc, renV_nilIface, renV_nilPtr, renV_ptr, renV_nilSl, renV_sl, renV_iface, renV_agg, renV_tuple, renV_func, o_fieldAddr fa_35_2 (by decide), loadA_eq ia_3, n74_1s, n74_3s, n74_4s, n74_2s, n74_0s, Try.f74]
theorem k73 (h1 : small n) (h2 : small X) (h3 : small W) : callH LL 73 [iv n, bv X Y W H] h = some ⟨.tuple #[bv X Y n H, bv (X + n) Y (W - n) H], h, [], []⟩ := by
  obtain ⟨n1, n2⟩ := h1; obtain ⟨x1, x2⟩ := h2; obtain ⟨w1, w2⟩ := h3
  refine callH_pure (go (by decide) ?_) rfl (fun g => rfl)
  rw [run73 _ _ _ (by simp)]
  simp (disch := first | omega | decide | assumption | simp [scal]) [runOps_nil, runOps_cons, runOpsF_nil, runOpsF_cons, fstS_some, fstF_some, opStep_eq, want_none, oStep_true, oStep_false, fin_pure, fin_read, fin_alloc, fin_write, storeB, wrN, cellV, addWr, o_move, o_assign, o_pick, o_alloc, o_box, o_load, o_store, o_nilCheck, o_bin, o_un, o_extract, o_callV, o_callB, o_callI, callV_f, callV_y, callV_fc, o_makeFunc, partsA, Instr.fill, builtin_len, builtin_max2, bin_add, bin_sub, bin_mul, bin_quo, bin_rem, bin_lss, bin_leq, bin_gtr, bin_geq, bin_eql, bin_neq, un_neg, un_not, opd, opds, optAll, lk, putO, put, has, rep, nbeq, nblt, constOk, isC, ops, sub, cl, cr, co, bodyOf, thenS_normal, thenS_ret, thenS_exit, thenS_goto, afterN_normal, afterN_ret, afterN_exit, afterN_goto, condS_true, condS_false, blockS_normal, blockS_ret, blockS_exit, blockS_goto, loopS_exit, loopS_ret, plainS_some, drawS_some, fpsOk, disj, unord, mem, range', dropTo, enumT, undef, wrap_i64_id, Value.cells, mkCells, ptrTo, scal, cellsAt, rdN, endS_ret, resultsA, Option.bind_some, tupV, finish, reach, reachN, dep, ptrL_eq, ptrL, renL_eq, renL, ptrV_bool, ptrV_int, ptrV_string, ptrV_nilFunc, ptrV_nilIface, ptrV_nilPtr, ptrV_ptr, ptrV_nilSl, ptrV_sl, ptrV_iface, ptrV_agg, ptrV_tuple, ptrV_func, renV_bool, renV_int, renV_string, renV_nilFunc, renV_nilIface, renV_nilPtr, renV_ptr, renV_nilSl, renV_sl, renV_iface, renV_agg, renV_tuple, renV_func, za_35, o_fieldAddr fa_35_0 (by decide), loadA_eq ia_3, o_fieldAddr fa_35_1 (by decide), o_fieldAddr fa_35_3 (by decide), o_build za_35 pl_35, o_fieldAddr fa_35_2 (by decide), sz_35, loadA_eq ia_35, n73_1s, n73_3s, n73_5s, n73_6s, n73_4s, n73_2s, n73_0s, Try.f73]
theorem k75 (h1 : small n) (h2 : small Y) (h3 : small H) : callH LL 75 [iv n, bv X Y W H] h = some ⟨.tuple #[bv X Y W n, bv X (Y + n) W (H - n)], h, [], []⟩ := by
  obtain ⟨n1, n2⟩ := h1; obtain ⟨x1, x2⟩ := h2; obtain ⟨w1, w2⟩ := h3
  refine callH_pure (go (by decide) ?_) rfl (fun g => rfl)
  rw [run75 _ _ _ (by simp)]
  simp (disch := first | omega | decide | assumption | simp [scal]) [runOps_nil, runOps_cons, runOpsF_nil, runOpsF_cons, fstS_some, fstF_some, opStep_eq, want_none, oStep_true, oStep_false, fin_pure, fin_read, fin_alloc, fin_write, storeB, wrN, cellV, addWr, o_move, o_assign, o_pick, o_alloc, o_box, o_load, o_store, o_nilCheck, o_bin, o_un, o_extract, o_callV, o_callB, o_callI, callV_f, callV_y, callV_fc, o_makeFunc, partsA, Instr.fill, builtin_len, builtin_max2, bin_add, bin_sub, bin_mul, bin_quo, bin_rem, bin_lss, bin_leq, bin_gtr, bin_geq, bin_eql, bin_neq, un_neg, un_not, opd, opds, optAll, lk, putO, put, has, rep, nbeq, nblt, constOk, isC, ops, sub, cl, cr, co, bodyOf, thenS_normal, thenS_ret, thenS_exit, thenS_goto, afterN_normal, afterN_ret, afterN_exit, afterN_goto, condS_true, condS_false, blockS_normal, blockS_ret, blockS_exit, blockS_goto, loopS_exit, loopS_ret, plainS_some, drawS_some, fpsOk, disj, unord, mem, range', dropTo, enumT, undef, wrap_i64_id, Value.cells, mkCells, ptrTo, scal, cellsAt, rdN, endS_ret, resultsA, Option.bind_some, tupV, finish, reach, reachN, dep, ptrL_eq, ptrL, renL_eq, renL, ptrV_bool, ptrV_int, ptrV_string, ptrV_nilFunc, ptrV_nilIface, ptrV_nilPtr, ptrV_ptr, ptrV_nilSl, ptrV_sl, ptrV_iface, ptrV_agg, ptrV_tuple, ptrV_func, renV_bool, renV_int, renV_string, renV_nilFunc, renV_nilIface, renV_nilPtr, renV_ptr, renV_nilSl, renV_sl, renV_iface, renV_agg, renV_tuple, renV_func, za_35, o_fieldAddr fa_35_0 (by decide), loadA_eq ia_3, o_fieldAddr fa_35_1 (by decide), o_fieldAddr fa_35_2 (by decide), o_build za_35 pl_35, o_fieldAddr fa_35_3 (by decide), sz_35, loadA_eq ia_35, n75_1s, n75_3s, n75_5s, n75_6s, n75_4s, n75_2s, n75_0s, Try.f75]
end
theorem m93p (n : Int) : methodA Try.prog 93 (iv n) "agonic/ore.parts" = some (73, iv n) := by rfl
theorem m93n (n : Int) : methodA Try.prog 93 (iv n) "agonic/ore.needles" = some (72, iv n) := by rfl
theorem m94p (n : Int) : methodA Try.prog 94 (iv n) "agonic/ore.parts" = some (75, iv n) := by rfl
theorem m94n (n : Int) : methodA Try.prog 94 (iv n) "agonic/ore.needles" = some (74, iv n) := by rfl
end Go.Proofs.Ytgpcjdhlijompaa.ore
namespace Go.Proofs.Ytgpcjdhlijompaa.ore
open Go.GE
set_option linter.unusedVariables false
set_option linter.unusedSimpArgs false
set_option maxRecDepth 100000
theorem neqI1 {t : TypeId} {v : Value} : binA Try.prog .neq 85 true (.iface t v) .nilIface = some (.bool true) := by simp [binA, eqA, Try.underlying85]
theorem neqI0 : binA Try.prog .neq 85 true .nilIface .nilIface = some (.bool false) := by simp [binA, eqA, Try.underlying85]
theorem eqlI1 {t : TypeId} {v : Value} : binA Try.prog .eql 85 true (.iface t v) .nilIface = some (.bool false) := by simp [binA, eqA, Try.underlying85]
theorem eqlI0 : binA Try.prog .eql 85 true .nilIface .nilIface = some (.bool true) := by simp [binA, eqA, Try.underlying85]
def tabT : List Int := [0, 0, 0, 0, 0, 0, 0, 0, 0, 0, 0, 0, 0, 0, 0, 0, 0, 0, 0, 0, 1, 2, 2, 3, 3, 3, 3, 0, 0, 2, 4, 4, 6, 6, 6, 6, 0, 0, 2, 4, 5, 7, 7, 8, 8, 0, 0, 3, 6, 7, 10, 10, 11, 11, 0, 0, 3, 6, 7, 10, 11, 12, 12, 0, 0, 3, 6, 8, 11, 12, 14, 14, 0, 0, 3, 6, 8, 11, 12, 14, 15]
def tT (w h : Nat) : Int := tabT.getD (w * 9 + h) 0
/-- of a block of a size: the first part's size, the other's, the needles -/
def one (W H : Nat) (l : Ln) : Nat × Nat := if l.1 then (l.2, H) else (W, l.2)
def two (W H : Nat) (l : Ln) : Nat × Nat := if l.1 then (W - l.2, H) else (W, H - l.2)
def ndl (W H : Nat) (l : Ln) : Int := if l.1 then H - 1 else W - 1
def cst (W H : Nat) (l : Ln) : Int := ndl W H l + max (tT (one W H l).1 (one W H l).2) (tT (two W H l).1 (two W H l).2)
def updL (W H : Nat) (p : Int × Option Ln) (l : Ln) : Int × Option Ln := if p.2 = none ∨ cst W H l < p.1 then (cst W H l, some l) else p
def bestL (W H : Nat) : Int × Option Ln := (lineL W H).foldl (updL W H) (0, none)
def tB (W H : Nat) : Option Ln := (bestL W H).2
theorem best_all : ((List.range 9).all fun W => (List.range 9).all fun H => W == 0 || H == 0 || (decide ((bestL W H).1 = tT W H) && ((bestL W H).2.isNone == (W == 1 && H == 1)))) = true := by decide +kernel
theorem best_T {W H : Nat} (hW : W < 9) (hH : H < 9) (h1 : 1 ≤ W) (h2 : 1 ≤ H) : (bestL W H).1 = tT W H ∧ ((bestL W H).2 = none ↔ W = 1 ∧ H = 1) := by
  have := List.all_eq_true.1 (List.all_eq_true.1 best_all W (List.mem_range.2 hW)) H (List.mem_range.2 hH)
  simp only [Bool.or_eq_true, beq_iff_eq, Bool.and_eq_true, decide_eq_true_eq] at this
  rcases this with (h | h) | ⟨h3, h4⟩
  · omega
  · omega
  · refine ⟨h3, ?_⟩
    rw [← Option.isNone_iff_eq_none]
    rw [h4]
    simp
abbrev Sz := Nat → Nat → Bool
def wv : Option Ln → Value
  | none => .nilIface
  | some l => lv l
def planL (S : Sz) : List Value := ((List.range 81).map fun i => if S (i / 9) (i % 9) then iv (tT (i / 9) (i % 9)) else iv 0) ++ (List.range 81).map fun i => if S (i / 9) (i % 9) then wv (tB (i / 9) (i % 9)) else .nilIface
def planB (S : Sz) : Blk := .cells (planL S) 1 false true
theorem wv_ids (o : Option Ln) : (∀ f, renV f dep (wv o) = some (wv o)) ∧ ptrV dep (wv o) = [] := by cases o <;> exact ⟨fun f => rfl, rfl⟩
theorem plan_noIds (S : Sz) : noIds (planL S) := noIds_of fun v hv => by
  unfold planL at hv
  rw [List.mem_append, List.mem_map, List.mem_map] at hv
  rcases hv with ⟨i, _, rfl⟩ | ⟨i, _, rfl⟩
  · split <;> exact ⟨fun f => rfl, rfl⟩
  · split
    · exact wv_ids _
    · exact ⟨fun f => rfl, rfl⟩
theorem ptrB_plan {S : Sz} : ptrB (planB S) = [] := noIds_ptrB (plan_noIds S)
theorem renB_plan {f : Nat → Option Nat} {S : Sz} : renB f (planB S) = some (planB S) := noIds_renB (plan_noIds S)
theorem plan_T {S : Sz} {w h : Nat} (hw : w < 9) (hh : h < 9) : (planL S)[w * 9 + h]? = some (if S w h then iv (tT w h) else iv 0) := by
  unfold planL
  rw [List.getElem?_append_left (by simp; omega), List.getElem?_map, List.getElem?_range (by omega)]
  simp only [Option.map_some]
  rw [show (w * 9 + h) / 9 = w by omega, show (w * 9 + h) % 9 = h by omega]
theorem plan_B {S : Sz} {w h : Nat} (hw : w < 9) (hh : h < 9) : (planL S)[81 + w * 9 + h]? = some (if S w h then wv (tB w h) else .nilIface) := by
  unfold planL
  rw [List.getElem?_append_right (by simp; omega), List.getElem?_map]
  rw [show 81 + w * 9 + h - ((List.range 81).map fun i => if S (i / 9) (i % 9) then iv (tT (i / 9) (i % 9)) else iv 0).length = w * 9 + h by simp; omega]
  rw [List.getElem?_range (by omega)]
  simp only [Option.map_some]
  rw [show (w * 9 + h) / 9 = w by omega, show (w * 9 + h) % 9 = h by omega]
theorem plan_len {S : Sz} : (planL S).length = 162 := by simp [planL]
def add1 (S : Sz) (W H : Nat) : Sz := fun w h => S w h || (decide (w = W) && decide (h = H))
def add (S : Sz) (W H : Nat) : Sz := fun w h => S w h || decide (1 ≤ w ∧ w ≤ W ∧ 1 ≤ h ∧ h ≤ H ∧ ¬ (w = 1 ∧ h = 1))
theorem plan_set {S : Sz} {W H : Nat} (hW : W < 9) (hH : H < 9) : ((planL S).set (W * 9 + H) (iv (tT W H))).set (81 + W * 9 + H) (wv (tB W H)) = planL (add1 S W H) := by
  apply List.ext_getElem?
  intro i
  by_cases hi : i < 162
  · by_cases h1 : i < 81
    · have e : i = (i / 9) * 9 + i % 9 := by omega
      rw [List.getElem?_set_ne (by omega)]
      rw [e, plan_T (by omega) (by omega), List.getElem?_set]
      by_cases h2 : W * 9 + H = i / 9 * 9 + i % 9
      · have hW' : W = i / 9 := by omega
        have hH' : H = i % 9 := by omega
        simp only [h2, if_true]
        rw [if_pos (by rw [plan_len]; omega)]
        simp [add1, hW', hH']
      · rw [if_neg h2, plan_T (by omega) (by omega)]
        have : ¬ (i / 9 = W ∧ i % 9 = H) := by omega
        have h3 : (decide (i / 9 = W) && decide (i % 9 = H)) = false := by simp; omega
        simp only [add1, h3, Bool.or_false]
    · have e : i = 81 + ((i - 81) / 9) * 9 + (i - 81) % 9 := by omega
      rw [e, plan_B (by omega) (by omega), List.getElem?_set]
      by_cases h2 : 81 + W * 9 + H = 81 + ((i - 81) / 9) * 9 + (i - 81) % 9
      · have hW' : W = (i - 81) / 9 := by omega
        have hH' : H = (i - 81) % 9 := by omega
        rw [if_pos h2, if_pos (by rw [List.length_set, plan_len]; omega)]
        simp [add1, hW', hH']
      · rw [if_neg h2, List.getElem?_set_ne (by omega), plan_B (by omega) (by omega)]
        have h3 : (decide ((i - 81) / 9 = W) && decide ((i - 81) % 9 = H)) = false := by simp; omega
        simp only [add1, h3, Bool.or_false]
  · rw [List.getElem?_eq_none (by simp [plan_len]; omega), List.getElem?_eq_none (by rw [plan_len]; omega)]
/-- with a size all smaller ones are known -/
structure DC (S : Sz) : Prop where
  down : ∀ w h w' h', S w h = true → 1 ≤ w' → w' ≤ w → 1 ≤ h' → h' ≤ h → ¬ (w' = 1 ∧ h' = 1) → S w' h' = true
  in' : ∀ w h, S w h = true → 1 ≤ w ∧ w ≤ 8 ∧ 1 ≤ h ∧ h ≤ 8 ∧ ¬ (w = 1 ∧ h = 1)
theorem DC.add {S : Sz} (hS : DC S) {W H : Nat} (hW : W ≤ 8) (hH : H ≤ 8) : DC (add S W H) := by
  constructor
  · intro w h w' h' h1 h2 h3 h4 h5 h6
    simp only [ore.add, Bool.or_eq_true, decide_eq_true_eq] at h1 ⊢
    rcases h1 with h1 | h1
    · exact .inl (hS.down w h w' h' h1 h2 h3 h4 h5 h6)
    · right; omega
  · intro w h h1
    simp only [ore.add, Bool.or_eq_true, decide_eq_true_eq] at h1
    rcases h1 with h1 | h1
    · exact hS.in' w h h1
    · omega
theorem add_hit {S : Sz} (hS : DC S) {W H : Nat} (h : (W = 1 ∧ H = 1) ∨ S W H = true) : add S W H = S := by
  funext w h'
  simp only [add]
  cases hs : S w h' with
  | true => rfl
  | false =>
    simp only [Bool.false_or, decide_eq_false_iff_not]
    intro hc
    rcases h with h | h
    · omega
    · have := hS.down W H w h' h hc.1 hc.2.1 hc.2.2.1 hc.2.2.2.1 hc.2.2.2.2
      rw [hs] at this; cases this
end Go.Proofs.Ytgpcjdhlijompaa.ore
namespace Go.Proofs.Ytgpcjdhlijompaa.ore
open Go.GE
set_option linter.unusedVariables false
set_option linter.unusedSimpArgs false
set_option maxRecDepth 100000
abbrev p0 : Value := .pointer (some ⟨0, 0, none⟩)
abbrev p2 : Value := .pointer (some ⟨2, 0, none⟩)
def aB : Blk := .cells [.pointer (some ⟨1, 0, none⟩)] 1 false true
def fB : Blk := .cells [.func (.func 54) #[] #[p0, p2]] 1 false true
def hit (S : Sz) (W H : Nat) : Prop := (W = 1 ∧ H = 1) ∨ S W H = true
instance (S : Sz) (W H : Nat) : Decidable (hit S W H) := inferInstanceAs (Decidable (_ ∨ _))
def wl (S : Sz) (W H : Nat) : List Nat := if hit S W H then [] else [1]
theorem wl_or (S : Sz) (W H : Nat) : wl S W H = [] ∨ wl S W H = [1] := by unfold wl; split <;> simp
def P54 (w h : Nat) : Prop := ∀ (x y : Int) (S : Sz), DC S → 0 ≤ x → x + w ≤ 1000 → 0 ≤ y → y + h ≤ 1000 →
  LL.run 54 [bv x y w h, p0, p2] [aB, planB S, fB] = some ⟨iv (tT w h), [], if hit S w h then [] else [(1, planB (add S w h))]⟩
theorem reach54 (S : Sz) (rest : List Blk) : reach (aB :: planB S :: fB :: rest) 0 reachN [0, 2] [] = [0, 1, 2] := by
  have e1 : ptrB aB = [1] := rfl
  have e2 : ptrB fB = [0, 2] := rfl
  have hm : ∀ k : Nat, 10 < k → reach (aB :: planB S :: fB :: rest) 0 k [0, 2] [] = [0, 1, 2] := by
    intro k hk
    obtain ⟨k, rfl⟩ : ∃ j, k = j + 8 := ⟨k - 8, by omega⟩
    simp [reach, mem, nblt, nbeq, e1, e2, ptrB_plan]
  exact hm reachN (by decide)
theorem k54 {w h : Nat} (hP : P54 w h) {x y : Int} {S : Sz} (hS : DC S) (hw : w ≤ 8) (hh : h ≤ 8) (h1 : 0 ≤ x) (h2 : x + w ≤ 1000) (h3 : 0 ≤ y) (h4 : y + h ≤ 1000) (rest : List Blk) :
    callH LL 54 [bv x y w h, p0, p2] (aB :: planB S :: fB :: rest) = some ⟨iv (tT w h), aB :: planB (add S w h) :: fB :: rest, [0, 1, 2], wl S w h⟩ := by
  have e := hP x y S hS h1 h2 h3 h4
  have f1 : ([bv x y w h, p0, p2] : List Value).flatMap (ptrV dep) = [0, 2] := rfl
  have f2 : optAll (renV (idx [0, 1, 2]) dep) [bv x y w h, p0, p2] = some [bv x y w h, p0, p2] := rfl
  have e1 : ∀ f : Nat → Option Nat, f 1 = some 1 → renB f aB = some aB := fun f hf => by
    show (optAll (renV f dep) _).map _ = _
    simp [optAll, renV_ptr, dep, hf, aB]
  have e2 : ∀ f : Nat → Option Nat, f 0 = some 0 → f 2 = some 2 → renB f fB = some fB := fun f h0 h2 => by
    show (optAll (renV f dep) _).map _ = _
    simp [optAll, renV_func, renFn, renL, renV_ptr, dep, h0, h2, fB]
  unfold callH
  simp only [f1, reach54, f2]
  have e1' := e1 (idx [0, 1, 2]) rfl
  have e2' := e2 (idx [0, 1, 2]) rfl rfl
  simp only [optAll, List.getElem?_cons_zero, List.getElem?_cons_succ, e1', e2', renB_plan, e]
  unfold wl
  by_cases hh' : hit S w h
  · rw [add_hit hS hh']
    simp [hh', mergeB, renV_int, dep, optAll]
  · simp [hh', mergeB, renV_int, dep, optAll, renB_plan]
end Go.Proofs.Ytgpcjdhlijompaa.ore
namespace Go.Proofs.Ytgpcjdhlijompaa.ore
open Go.GE
set_option linter.unusedVariables false
set_option linter.unusedSimpArgs false
set_option maxRecDepth 100000
theorem tT_b (w h : Nat) : 0 ≤ tT w h ∧ tT w h ≤ 15 := by
  unfold tT
  by_cases hn : w * 9 + h < 81
  · have : ∀ n : Nat, n < 81 → 0 ≤ tabT.getD n 0 ∧ tabT.getD n 0 ≤ 15 := by decide
    exact this _ hn
  · rw [List.getD_eq_getElem?_getD, List.getElem?_eq_none (by simp [tabT]; omega)]
    decide
theorem eql_lv {l : Ln} : binA Try.prog .eql 85 true (lv l) .nilIface = some (.bool false) := eqlI1
theorem max_if (a b : Int) : (if a < b then b else a) = max a b := by omega
def lnOf (lay : Bool) : Nat := if lay then 3 else 4
def bxOf (lay : Bool) : Nat := if lay then 4 else 3
def restOf (lay : Bool) (b : Blk) (l : List Ln) : List Blk := if lay then [linB l, b] else [b, linB l]
section
variable (X Y : Int) (W H : Nat) (l : List Ln)
def pre54 (ln : Nat) (τ : Tm) (i : Int) (way : Option Ln) (least : Int) : Tm :=
  (46, iv i) :: (45, iv l.length) :: (44, .slice (some ⟨ln, 0, none⟩) l.length l.length) :: (43, bv X Y W H) :: (6, wv way) :: (5, iv least) :: τ
/-- two blocks' values, after a round -/
def boxOf (X Y W H : Int) : Blk := .cells [iv X, iv Y, iv W, iv H] 1 true true
def cut1 (p : Ln) : Blk := if p.1 then boxOf X Y p.2 H else boxOf X Y W p.2
def cut2 (p : Ln) : Blk := if p.1 then boxOf (X + p.2) Y (W - p.2 : Nat) H else boxOf X (Y + p.2) W (H - p.2 : Nat)
set_option maxHeartbeats 20000000 in
theorem rnd54 (lay : Bool) (hX : 0 ≤ X ∧ X + W ≤ 1000) (hY : 0 ≤ Y ∧ Y + H ≤ 1000) (hW : W ≤ 8) (hH : H ≤ 8) (hP : ∀ w h, 1 ≤ w → 1 ≤ h → w ≤ 8 → h ≤ 8 → w + h < W + H → P54 w h) (hlen : l.length ≤ 100)
    (τ : Tm) (h2 : lk τ 2 = some p2) (h3 : lk τ 3 = some (.pointer (some ⟨bxOf lay, 0, none⟩))) (hb : ∀ t, 47 ≤ t → has τ t = false) (hb8 : has τ 8 = false) (hb9 : has τ 9 = false) (hb10 : has τ 10 = false) (hb11 : has τ 11 = false)
    (S : Sz) (hS : DC S) (i : Nat) (p : Ln) (hi : l[i]? = some p) (hp : if p.1 then 1 ≤ p.2 ∧ p.2 < W ∧ 1 ≤ H else 1 ≤ p.2 ∧ p.2 < H ∧ 1 ≤ W) (way : Option Ln) (least : Int) (wr : List Nat) :
    ∃ wr', (wr' = addWr 3 (addWr 3 wr (wl S (one W H p).1 (one W H p).2)) (wl (add S (one W H p).1 (one W H p).2) (two W H p).1 (two W H p).2)) ∧
    codeB Try.prog LL ⟨54, 98, 3, none⟩ n54_19 ⟨pre54 X Y W H l (lnOf lay) τ i way least, aB :: planB S :: fB :: restOf lay (boxOf X Y W H) l, wr⟩ =
      some (.normal, ⟨(76, iv (i + 1)) :: (47, .bool true) :: pre54 X Y W H l (lnOf lay) τ (i + 1) (updL W H (least, way) p).2 (updL W H (least, way) p).1,
        aB :: planB (add (add S (one W H p).1 (one W H p).2) (two W H p).1 (two W H p).2) :: fB :: (restOf lay (boxOf X Y W H) l ++ [cut1 X Y W H p, cut2 X Y W H p]), wr'⟩) := by
  obtain ⟨tag, m⟩ := p
  have e1 : i < l.length := (List.getElem?_eq_some_iff.1 hi).1
  have elv : (l.map lv)[i]? = some (lv (tag, m)) := by rw [List.getElem?_map, hi]; rfl
  have tb := tT_b
  refine ⟨_, rfl, ?_⟩
  cases tag with
  | true =>
    simp only [if_true] at hp
    obtain ⟨m1, m2, m3⟩ := hp
    have t1 := tb m H
    have t2 := tb (W - m) H
    have hP1 := hP m H (by omega) (by omega) (by omega) (by omega) (by omega)
    have hP2 := hP (W - m) H (by omega) (by omega) (by omega) (by omega) (by omega)
    have eW : (W : Int) - m = ((W - m : Nat) : Int) := by omega
    have kp := fun h => k73 m X Y W H h (by unfold small; omega) (by unfold small; omega) (by unfold small; omega)
    rw [eW] at kp
    have kn := fun h => k72 m X Y W H h (by unfold small; omega)
    have c1 := fun rest : List Blk => k54 hP1 hS (x := X) (y := Y) (by omega) (by omega) hX.1 (by omega) hY.1 (by omega) rest
    have c2 := fun rest : List Blk => k54 hP2 (S := add S m H) (hS.add (by omega) (by omega)) (by omega) (by omega) (x := X + m) (y := Y) (by omega) (by omega) (by omega) (by omega) rest
    have w1 := wl_or S m H
    have w2 := wl_or (add S m H) (W - m) H
    simp only [fB, aB] at c1 c2 ⊢
    simp only [one, two, if_true]
    generalize wl S m H = u1 at *
    generalize wl (add S m H) (W - m) H = u2 at *
    simp only [updL, cst, ndl, one, two, cut1, cut2, if_true, boxOf]
    cases way with
    | none =>
      simp only [wv, true_or, if_true, pre54]
      cases lay <;> simp only [lnOf, bxOf, restOf, Bool.false_eq_true, if_true, if_false] at h3 ⊢ <;> rcases w1 with rfl | rfl <;> rcases w2 with rfl | rfl <;>
      simp (disch := first | omega | decide | assumption | simp [scal]) [runOps_nil, runOps_cons, runOpsF_nil, runOpsF_cons, fstS_some, fstF_some, opStep_eq, want_none, oStep_true, oStep_false, fin_pure, fin_read, fin_alloc, fin_write, storeB, wrN, cellV, addWr, o_move, o_assign, o_pick, o_alloc, o_box, o_load, o_store, o_nilCheck, o_bin, o_un, o_extract, o_callV, o_callB, o_callI, callV_f, callV_y, callV_fc, o_makeFunc, partsA, Instr.fill, builtin_len, builtin_max2, bin_add, bin_sub, bin_mul, bin_quo, bin_rem, bin_lss, bin_leq, bin_gtr, bin_geq, bin_eql, bin_neq, un_neg, un_not, opd, opds, optAll, lk, putO, put, has, rep, nbeq, nblt, constOk, isC, ops, sub, cl, cr, co, bodyOf, thenS_normal, thenS_ret, thenS_exit, thenS_goto, afterN_normal, afterN_ret, afterN_exit, afterN_goto, condS_true, condS_false, blockS_normal, blockS_ret, blockS_exit, blockS_goto, loopS_exit, loopS_ret, plainS_some, drawS_some, fpsOk, disj, unord, mem, range', dropTo, enumT, undef, wrap_i64_id, Value.cells, mkCells, ptrTo, scal, cellsAt, rdN, endS_ret, resultsA, Option.bind_some, tupV, finish, reach, reachN, dep, ptrL_eq, ptrL, renL_eq, renL, ptrV_bool, ptrV_int, ptrV_string, ptrV_nilFunc, ptrV_nilIface, ptrV_nilPtr, ptrV_ptr, ptrV_nilSl, ptrV_sl, ptrV_iface, ptrV_agg, ptrV_tuple, ptrV_func, renV_bool, renV_int, renV_string, renV_nilFunc, renV_nilIface, renV_nilPtr, renV_ptr, renV_nilSl, renV_sl, renV_iface, renV_agg, renV_tuple, renV_func, o_fieldAddr fa_35_2 (by decide), loadA_eq ia_3, o_fieldAddr fa_35_3 (by decide), loadA_eq ia_90, o_fieldAddr fa_89_1 (by decide), o_indexAddrA ea_87, o_indexAddrA ea_86, loadA_eq ia_85, o_fieldAddr fa_89_0 (by decide), o_indexAddrA ea_83, o_indexAddrA ea_82, loadA_eq ia_35, lenA_sl lk_101, o_indexAddrS es_101, za_35, sz_35, loadA_eq ia_79, sz_3, sz_85, n54_1s, n54_4s, n54_7s, n54_8s, n54_6s, n54_9s, n54_5s, n54_3s, n54_11s, n54_13s, n54_16s, n54_20s, n54_23s, n54_24s, n54_22s, n54_28s, n54_30s, n54_32s, n54_34s, n54_36s, n54_37s, n54_35s, n54_33s, n54_31s, n54_29s, n54_27s, n54_26s, n54_38s, n54_25s, n54_21s, n54_19s, n54_17s, n54_15s, n54_40s, n54_42s, n54_43s, n54_41s, n54_39s, n54_14s, n54_12s, n54_10s, n54_2s, n54_0s, want_some q54_4g3, want_some q54_4g8, want_some q54_34g2, Try.f54, boxOf, linB, elv, e1, -dropTo, drop_cons, drop_self, h2, h3, hb, hb8, hb9, hb10, hb11, lv_t, lv_f, m93p, m93n, m94p, m94n, kp, kn, c1, c2, max_if, eqlI0, eql_lv, lenA_sl lk_101]
    | some q =>
      by_cases hlt : (H : Int) - 1 + max (tT m H) (tT (W - m) H) < least
      · simp only [wv, hlt, or_true, if_true, pre54]
        cases lay <;> simp only [lnOf, bxOf, restOf, Bool.false_eq_true, if_true, if_false] at h3 ⊢ <;> rcases w1 with rfl | rfl <;> rcases w2 with rfl | rfl <;>
        simp (disch := first | omega | decide | assumption | simp [scal]) [runOps_nil, runOps_cons, runOpsF_nil, runOpsF_cons, fstS_some, fstF_some, opStep_eq, want_none, oStep_true, oStep_false, fin_pure, fin_read, fin_alloc, fin_write, storeB, wrN, cellV, addWr, o_move, o_assign, o_pick, o_alloc, o_box, o_load, o_store, o_nilCheck, o_bin, o_un, o_extract, o_callV, o_callB, o_callI, callV_f, callV_y, callV_fc, o_makeFunc, partsA, Instr.fill, builtin_len, builtin_max2, bin_add, bin_sub, bin_mul, bin_quo, bin_rem, bin_lss, bin_leq, bin_gtr, bin_geq, bin_eql, bin_neq, un_neg, un_not, opd, opds, optAll, lk, putO, put, has, rep, nbeq, nblt, constOk, isC, ops, sub, cl, cr, co, bodyOf, thenS_normal, thenS_ret, thenS_exit, thenS_goto, afterN_normal, afterN_ret, afterN_exit, afterN_goto, condS_true, condS_false, blockS_normal, blockS_ret, blockS_exit, blockS_goto, loopS_exit, loopS_ret, plainS_some, drawS_some, fpsOk, disj, unord, mem, range', dropTo, enumT, undef, wrap_i64_id, Value.cells, mkCells, ptrTo, scal, cellsAt, rdN, endS_ret, resultsA, Option.bind_some, tupV, finish, reach, reachN, dep, ptrL_eq, ptrL, renL_eq, renL, ptrV_bool, ptrV_int, ptrV_string, ptrV_nilFunc, ptrV_nilIface, ptrV_nilPtr, ptrV_ptr, ptrV_nilSl, ptrV_sl, ptrV_iface, ptrV_agg, ptrV_tuple, ptrV_func, renV_bool, renV_int, renV_string, renV_nilFunc, renV_nilIface, renV_nilPtr, renV_ptr, renV_nilSl, renV_sl, renV_iface, renV_agg, renV_tuple, renV_func, o_fieldAddr fa_35_2 (by decide), loadA_eq ia_3, o_fieldAddr fa_35_3 (by decide), loadA_eq ia_90, o_fieldAddr fa_89_1 (by decide), o_indexAddrA ea_87, o_indexAddrA ea_86, loadA_eq ia_85, o_fieldAddr fa_89_0 (by decide), o_indexAddrA ea_83, o_indexAddrA ea_82, loadA_eq ia_35, lenA_sl lk_101, o_indexAddrS es_101, za_35, sz_35, loadA_eq ia_79, sz_3, sz_85, n54_1s, n54_4s, n54_7s, n54_8s, n54_6s, n54_9s, n54_5s, n54_3s, n54_11s, n54_13s, n54_16s, n54_20s, n54_23s, n54_24s, n54_22s, n54_28s, n54_30s, n54_32s, n54_34s, n54_36s, n54_37s, n54_35s, n54_33s, n54_31s, n54_29s, n54_27s, n54_26s, n54_38s, n54_25s, n54_21s, n54_19s, n54_17s, n54_15s, n54_40s, n54_42s, n54_43s, n54_41s, n54_39s, n54_14s, n54_12s, n54_10s, n54_2s, n54_0s, want_some q54_4g3, want_some q54_4g8, want_some q54_34g2, Try.f54, boxOf, linB, elv, e1, -dropTo, drop_cons, drop_self, h2, h3, hb, hb8, hb9, hb10, hb11, lv_t, lv_f, m93p, m93n, m94p, m94n, kp, kn, c1, c2, max_if, eqlI0, eql_lv, lenA_sl lk_101, hlt]
      · simp only [wv, hlt, or_false, reduceCtorEq, if_false, pre54]
        cases lay <;> simp only [lnOf, bxOf, restOf, Bool.false_eq_true, if_true, if_false] at h3 ⊢ <;> rcases w1 with rfl | rfl <;> rcases w2 with rfl | rfl <;>
        simp (disch := first | omega | decide | assumption | simp [scal]) [runOps_nil, runOps_cons, runOpsF_nil, runOpsF_cons, fstS_some, fstF_some, opStep_eq, want_none, oStep_true, oStep_false, fin_pure, fin_read, fin_alloc, fin_write, storeB, wrN, cellV, addWr, o_move, o_assign, o_pick, o_alloc, o_box, o_load, o_store, o_nilCheck, o_bin, o_un, o_extract, o_callV, o_callB, o_callI, callV_f, callV_y, callV_fc, o_makeFunc, partsA, Instr.fill, builtin_len, builtin_max2, bin_add, bin_sub, bin_mul, bin_quo, bin_rem, bin_lss, bin_leq, bin_gtr, bin_geq, bin_eql, bin_neq, un_neg, un_not, opd, opds, optAll, lk, putO, put, has, rep, nbeq, nblt, constOk, isC, ops, sub, cl, cr, co, bodyOf, thenS_normal, thenS_ret, thenS_exit, thenS_goto, afterN_normal, afterN_ret, afterN_exit, afterN_goto, condS_true, condS_false, blockS_normal, blockS_ret, blockS_exit, blockS_goto, loopS_exit, loopS_ret, plainS_some, drawS_some, fpsOk, disj, unord, mem, range', dropTo, enumT, undef, wrap_i64_id, Value.cells, mkCells, ptrTo, scal, cellsAt, rdN, endS_ret, resultsA, Option.bind_some, tupV, finish, reach, reachN, dep, ptrL_eq, ptrL, renL_eq, renL, ptrV_bool, ptrV_int, ptrV_string, ptrV_nilFunc, ptrV_nilIface, ptrV_nilPtr, ptrV_ptr, ptrV_nilSl, ptrV_sl, ptrV_iface, ptrV_agg, ptrV_tuple, ptrV_func, renV_bool, renV_int, renV_string, renV_nilFunc, renV_nilIface, renV_nilPtr, renV_ptr, renV_nilSl, renV_sl, renV_iface, renV_agg, renV_tuple, renV_func, o_fieldAddr fa_35_2 (by decide), loadA_eq ia_3, o_fieldAddr fa_35_3 (by decide), loadA_eq ia_90, o_fieldAddr fa_89_1 (by decide), o_indexAddrA ea_87, o_indexAddrA ea_86, loadA_eq ia_85, o_fieldAddr fa_89_0 (by decide), o_indexAddrA ea_83, o_indexAddrA ea_82, loadA_eq ia_35, lenA_sl lk_101, o_indexAddrS es_101, za_35, sz_35, loadA_eq ia_79, sz_3, sz_85, n54_1s, n54_4s, n54_7s, n54_8s, n54_6s, n54_9s, n54_5s, n54_3s, n54_11s, n54_13s, n54_16s, n54_20s, n54_23s, n54_24s, n54_22s, n54_28s, n54_30s, n54_32s, n54_34s, n54_36s, n54_37s, n54_35s, n54_33s, n54_31s, n54_29s, n54_27s, n54_26s, n54_38s, n54_25s, n54_21s, n54_19s, n54_17s, n54_15s, n54_40s, n54_42s, n54_43s, n54_41s, n54_39s, n54_14s, n54_12s, n54_10s, n54_2s, n54_0s, want_some q54_4g3, want_some q54_4g8, want_some q54_34g2, Try.f54, boxOf, linB, elv, e1, -dropTo, drop_cons, drop_self, h2, h3, hb, hb8, hb9, hb10, hb11, lv_t, lv_f, m93p, m93n, m94p, m94n, kp, kn, c1, c2, max_if, eqlI0, eql_lv, lenA_sl lk_101, hlt]
  | false =>
    simp only [Bool.false_eq_true, if_false] at hp
    obtain ⟨m1, m2, m3⟩ := hp
    have t1 := tb W m
    have t2 := tb W (H - m)
    have hP1 := hP W m (by omega) (by omega) (by omega) (by omega) (by omega)
    have hP2 := hP W (H - m) (by omega) (by omega) (by omega) (by omega) (by omega)
    have eW : (H : Int) - m = ((H - m : Nat) : Int) := by omega
    have kp := fun h => k75 m X Y W H h (by unfold small; omega) (by unfold small; omega) (by unfold small; omega)
    rw [eW] at kp
    have kn := fun h => k74 m X Y W H h (by unfold small; omega)
    have c1 := fun rest : List Blk => k54 hP1 hS (x := X) (y := Y) (by omega) (by omega) hX.1 (by omega) hY.1 (by omega) rest
    have c2 := fun rest : List Blk => k54 hP2 (S := add S W m) (hS.add (by omega) (by omega)) (by omega) (by omega) (x := X) (y := Y + m) (by omega) (by omega) (by omega) (by omega) rest
    have w1 := wl_or S W m
    have w2 := wl_or (add S W m) W (H - m)
    simp only [fB, aB] at c1 c2 ⊢
    simp only [one, two, Bool.false_eq_true, if_false]
    generalize wl S W m = u1 at *
    generalize wl (add S W m) W (H - m) = u2 at *
    simp only [updL, cst, ndl, one, two, cut1, cut2, Bool.false_eq_true, if_false, boxOf]
    cases way with
    | none =>
      simp only [wv, true_or, if_true, pre54]
      cases lay <;> simp only [lnOf, bxOf, restOf, Bool.false_eq_true, if_true, if_false] at h3 ⊢ <;> rcases w1 with rfl | rfl <;> rcases w2 with rfl | rfl <;>
      simp (disch := first | omega | decide | assumption | simp [scal]) [runOps_nil, runOps_cons, runOpsF_nil, runOpsF_cons, fstS_some, fstF_some, opStep_eq, want_none, oStep_true, oStep_false, fin_pure, fin_read, fin_alloc, fin_write, storeB, wrN, cellV, addWr, o_move, o_assign, o_pick, o_alloc, o_box, o_load, o_store, o_nilCheck, o_bin, o_un, o_extract, o_callV, o_callB, o_callI, callV_f, callV_y, callV_fc, o_makeFunc, partsA, Instr.fill, builtin_len, builtin_max2, bin_add, bin_sub, bin_mul, bin_quo, bin_rem, bin_lss, bin_leq, bin_gtr, bin_geq, bin_eql, bin_neq, un_neg, un_not, opd, opds, optAll, lk, putO, put, has, rep, nbeq, nblt, constOk, isC, ops, sub, cl, cr, co, bodyOf, thenS_normal, thenS_ret, thenS_exit, thenS_goto, afterN_normal, afterN_ret, afterN_exit, afterN_goto, condS_true, condS_false, blockS_normal, blockS_ret, blockS_exit, blockS_goto, loopS_exit, loopS_ret, plainS_some, drawS_some, fpsOk, disj, unord, mem, range', dropTo, enumT, undef, wrap_i64_id, Value.cells, mkCells, ptrTo, scal, cellsAt, rdN, endS_ret, resultsA, Option.bind_some, tupV, finish, reach, reachN, dep, ptrL_eq, ptrL, renL_eq, renL, ptrV_bool, ptrV_int, ptrV_string, ptrV_nilFunc, ptrV_nilIface, ptrV_nilPtr, ptrV_ptr, ptrV_nilSl, ptrV_sl, ptrV_iface, ptrV_agg, ptrV_tuple, ptrV_func, renV_bool, renV_int, renV_string, renV_nilFunc, renV_nilIface, renV_nilPtr, renV_ptr, renV_nilSl, renV_sl, renV_iface, renV_agg, renV_tuple, renV_func, o_fieldAddr fa_35_2 (by decide), loadA_eq ia_3, o_fieldAddr fa_35_3 (by decide), loadA_eq ia_90, o_fieldAddr fa_89_1 (by decide), o_indexAddrA ea_87, o_indexAddrA ea_86, loadA_eq ia_85, o_fieldAddr fa_89_0 (by decide), o_indexAddrA ea_83, o_indexAddrA ea_82, loadA_eq ia_35, lenA_sl lk_101, o_indexAddrS es_101, za_35, sz_35, loadA_eq ia_79, sz_3, sz_85, n54_1s, n54_4s, n54_7s, n54_8s, n54_6s, n54_9s, n54_5s, n54_3s, n54_11s, n54_13s, n54_16s, n54_20s, n54_23s, n54_24s, n54_22s, n54_28s, n54_30s, n54_32s, n54_34s, n54_36s, n54_37s, n54_35s, n54_33s, n54_31s, n54_29s, n54_27s, n54_26s, n54_38s, n54_25s, n54_21s, n54_19s, n54_17s, n54_15s, n54_40s, n54_42s, n54_43s, n54_41s, n54_39s, n54_14s, n54_12s, n54_10s, n54_2s, n54_0s, want_some q54_4g3, want_some q54_4g8, want_some q54_34g2, Try.f54, boxOf, linB, elv, e1, -dropTo, drop_cons, drop_self, h2, h3, hb, hb8, hb9, hb10, hb11, lv_t, lv_f, m93p, m93n, m94p, m94n, kp, kn, c1, c2, max_if, eqlI0, eql_lv, lenA_sl lk_101]
    | some q =>
      by_cases hlt : (W : Int) - 1 + max (tT W m) (tT W (H - m)) < least
      · simp only [wv, hlt, or_true, if_true, pre54]
        cases lay <;> simp only [lnOf, bxOf, restOf, Bool.false_eq_true, if_true, if_false] at h3 ⊢ <;> rcases w1 with rfl | rfl <;> rcases w2 with rfl | rfl <;>
        simp (disch := first | omega | decide | assumption | simp [scal]) [runOps_nil, runOps_cons, runOpsF_nil, runOpsF_cons, fstS_some, fstF_some, opStep_eq, want_none, oStep_true, oStep_false, fin_pure, fin_read, fin_alloc, fin_write, storeB, wrN, cellV, addWr, o_move, o_assign, o_pick, o_alloc, o_box, o_load, o_store, o_nilCheck, o_bin, o_un, o_extract, o_callV, o_callB, o_callI, callV_f, callV_y, callV_fc, o_makeFunc, partsA, Instr.fill, builtin_len, builtin_max2, bin_add, bin_sub, bin_mul, bin_quo, bin_rem, bin_lss, bin_leq, bin_gtr, bin_geq, bin_eql, bin_neq, un_neg, un_not, opd, opds, optAll, lk, putO, put, has, rep, nbeq, nblt, constOk, isC, ops, sub, cl, cr, co, bodyOf, thenS_normal, thenS_ret, thenS_exit, thenS_goto, afterN_normal, afterN_ret, afterN_exit, afterN_goto, condS_true, condS_false, blockS_normal, blockS_ret, blockS_exit, blockS_goto, loopS_exit, loopS_ret, plainS_some, drawS_some, fpsOk, disj, unord, mem, range', dropTo, enumT, undef, wrap_i64_id, Value.cells, mkCells, ptrTo, scal, cellsAt, rdN, endS_ret, resultsA, Option.bind_some, tupV, finish, reach, reachN, dep, ptrL_eq, ptrL, renL_eq, renL, ptrV_bool, ptrV_int, ptrV_string, ptrV_nilFunc, ptrV_nilIface, ptrV_nilPtr, ptrV_ptr, ptrV_nilSl, ptrV_sl, ptrV_iface, ptrV_agg, ptrV_tuple, ptrV_func, renV_bool, renV_int, renV_string, renV_nilFunc, renV_nilIface, renV_nilPtr, renV_ptr, renV_nilSl, renV_sl, renV_iface, renV_agg, renV_tuple, renV_func, o_fieldAddr fa_35_2 (by decide), loadA_eq ia_3, o_fieldAddr fa_35_3 (by decide), loadA_eq ia_90, o_fieldAddr fa_89_1 (by decide), o_indexAddrA ea_87, o_indexAddrA ea_86, loadA_eq ia_85, o_fieldAddr fa_89_0 (by decide), o_indexAddrA ea_83, o_indexAddrA ea_82, loadA_eq ia_35, lenA_sl lk_101, o_indexAddrS es_101, za_35, sz_35, loadA_eq ia_79, sz_3, sz_85, n54_1s, n54_4s, n54_7s, n54_8s, n54_6s, n54_9s, n54_5s, n54_3s, n54_11s, n54_13s, n54_16s, n54_20s, n54_23s, n54_24s, n54_22s, n54_28s, n54_30s, n54_32s, n54_34s, n54_36s, n54_37s, n54_35s, n54_33s, n54_31s, n54_29s, n54_27s, n54_26s, n54_38s, n54_25s, n54_21s, n54_19s, n54_17s, n54_15s, n54_40s, n54_42s, n54_43s, n54_41s, n54_39s, n54_14s, n54_12s, n54_10s, n54_2s, n54_0s, want_some q54_4g3, want_some q54_4g8, want_some q54_34g2, Try.f54, boxOf, linB, elv, e1, -dropTo, drop_cons, drop_self, h2, h3, hb, hb8, hb9, hb10, hb11, lv_t, lv_f, m93p, m93n, m94p, m94n, kp, kn, c1, c2, max_if, eqlI0, eql_lv, lenA_sl lk_101, hlt]
      · simp only [wv, hlt, or_false, reduceCtorEq, if_false, pre54]
        cases lay <;> simp only [lnOf, bxOf, restOf, Bool.false_eq_true, if_true, if_false] at h3 ⊢ <;> rcases w1 with rfl | rfl <;> rcases w2 with rfl | rfl <;>
        simp (disch := first | omega | decide | assumption | simp [scal]) [runOps_nil, runOps_cons, runOpsF_nil, runOpsF_cons, fstS_some, fstF_some, opStep_eq, want_none, oStep_true, oStep_false, fin_pure, fin_read, fin_alloc, fin_write, storeB, wrN, cellV, addWr, o_move, o_assign, o_pick, o_alloc, o_box, o_load, o_store, o_nilCheck, o_bin, o_un, o_extract, o_callV, o_callB, o_callI, callV_f, callV_y, callV_fc, o_makeFunc, partsA, Instr.fill, builtin_len, builtin_max2, bin_add, bin_sub, bin_mul, bin_quo, bin_rem, bin_lss, bin_leq, bin_gtr, bin_geq, bin_eql, bin_neq, un_neg, un_not, opd, opds, optAll, lk, putO, put, has, rep, nbeq, nblt, constOk, isC, ops, sub, cl, cr, co, bodyOf, thenS_normal, thenS_ret, thenS_exit, thenS_goto, afterN_normal, afterN_ret, afterN_exit, afterN_goto, condS_true, condS_false, blockS_normal, blockS_ret, blockS_exit, blockS_goto, loopS_exit, loopS_ret, plainS_some, drawS_some, fpsOk, disj, unord, mem, range', dropTo, enumT, undef, wrap_i64_id, Value.cells, mkCells, ptrTo, scal, cellsAt, rdN, endS_ret, resultsA, Option.bind_some, tupV, finish, reach, reachN, dep, ptrL_eq, ptrL, renL_eq, renL, ptrV_bool, ptrV_int, ptrV_string, ptrV_nilFunc, ptrV_nilIface, ptrV_nilPtr, ptrV_ptr, ptrV_nilSl, ptrV_sl, ptrV_iface, ptrV_agg, ptrV_tuple, ptrV_func, renV_bool, renV_int, renV_string, renV_nilFunc, renV_nilIface, renV_nilPtr, renV_ptr, renV_nilSl, renV_sl, renV_iface, renV_agg, renV_tuple, renV_func, o_fieldAddr fa_35_2 (by decide), loadA_eq ia_3, o_fieldAddr fa_35_3 (by decide), loadA_eq ia_90, o_fieldAddr fa_89_1 (by decide), o_indexAddrA ea_87, o_indexAddrA ea_86, loadA_eq ia_85, o_fieldAddr fa_89_0 (by decide), o_indexAddrA ea_83, o_indexAddrA ea_82, loadA_eq ia_35, lenA_sl lk_101, o_indexAddrS es_101, za_35, sz_35, loadA_eq ia_79, sz_3, sz_85, n54_1s, n54_4s, n54_7s, n54_8s, n54_6s, n54_9s, n54_5s, n54_3s, n54_11s, n54_13s, n54_16s, n54_20s, n54_23s, n54_24s, n54_22s, n54_28s, n54_30s, n54_32s, n54_34s, n54_36s, n54_37s, n54_35s, n54_33s, n54_31s, n54_29s, n54_27s, n54_26s, n54_38s, n54_25s, n54_21s, n54_19s, n54_17s, n54_15s, n54_40s, n54_42s, n54_43s, n54_41s, n54_39s, n54_14s, n54_12s, n54_10s, n54_2s, n54_0s, want_some q54_4g3, want_some q54_4g8, want_some q54_34g2, Try.f54, boxOf, linB, elv, e1, -dropTo, drop_cons, drop_self, h2, h3, hb, hb8, hb9, hb10, hb11, lv_t, lv_f, m93p, m93n, m94p, m94n, kp, kn, c1, c2, max_if, eqlI0, eql_lv, lenA_sl lk_101, hlt]
end
end Go.Proofs.Ytgpcjdhlijompaa.ore
namespace Go.Proofs.Ytgpcjdhlijompaa.ore
open Go.GE
set_option linter.unusedVariables false
set_option linter.unusedSimpArgs false
set_option maxRecDepth 100000
def addP (W H : Nat) (S : Sz) (p : Ln) : Sz := add (add S (one W H p).1 (one W H p).2) (two W H p).1 (two W H p).2
section
variable (X Y : Int) (W H : Nat) (l : List Ln)
def T54 (d : Bool) (bx : Nat) : Tm := [(32, .bool false), (31, .bool false), (30, .nilIface), (29, .pointer (some ⟨1, 81 + W * 9 + H, none⟩)), (28, .pointer (some ⟨1, 81 + W * 9, none⟩)), (27, .pointer (some ⟨1, 81, none⟩)), (26, .pointer (some ⟨1, 0, none⟩)), (25, iv H), (24, .pointer (some ⟨bx, 3, none⟩)), (23, iv W), (22, .pointer (some ⟨bx, 2, none⟩)), (21, .pointer (some ⟨1, 0, none⟩)),
  (20, .bool false), (19, .bool false), (18, if d then .bool false else .tuple #[]), (17, if d then iv H else .tuple #[]), (16, if d then .pointer (some ⟨bx, 3, none⟩) else .tuple #[]), (15, .bool d), (14, .bool d), (13, iv W), (12, .pointer (some ⟨bx, 2, none⟩)), (4, iv 0), (3, .pointer (some ⟨bx, 0, none⟩)), (0, bv X Y W H), (1, p0), (2, p2)]
def hN (S : Sz) : List Blk := [aB, planB S, fB, linB l, boxOf X Y W H]
set_option maxHeartbeats 4000000 in
theorem sw54 (d lay : Bool) (i : Int) (way : Option Ln) (least : Int) (S : Sz) (b5 b6 : Blk) (wr : List Nat) (hw : wr = [] ∨ wr = [1]) :
    sweep 3 ⟨pre54 X Y W H l (lnOf lay) (T54 X Y W H d (bxOf lay)) i way least, aB :: planB S :: fB :: (restOf lay (boxOf X Y W H) l ++ [b5, b6]), wr⟩ =
      some ⟨pre54 X Y W H l 3 (T54 X Y W H d 4) i way least, hN X Y W H l S, wr⟩ := by
  have w1 := (wv_ids way).1
  have w2 := (wv_ids way).2
  simp only [dep] at w1 w2
  cases lay <;> cases d <;> rcases hw with rfl | rfl <;> simp only [pre54, T54, lnOf, bxOf, restOf, hN, boxOf, Bool.false_eq_true, if_true, if_false] <;>
  simp (disch := first | omega | decide | assumption | simp [scal]) [runOps_nil, runOps_cons, runOpsF_nil, runOpsF_cons, fstS_some, fstF_some, opStep_eq, want_none, oStep_true, oStep_false, fin_pure, fin_read, fin_alloc, fin_write, storeB, wrN, cellV, addWr, o_move, o_assign, o_pick, o_alloc, o_box, o_load, o_store, o_nilCheck, o_bin, o_un, o_extract, o_callV, o_callB, o_callI, callV_f, callV_y, callV_fc, o_makeFunc, partsA, Instr.fill, builtin_len, builtin_max2, bin_add, bin_sub, bin_mul, bin_quo, bin_rem, bin_lss, bin_leq, bin_gtr, bin_geq, bin_eql, bin_neq, un_neg, un_not, opd, opds, optAll, lk, putO, put, has, rep, nbeq, nblt, constOk, isC, ops, sub, cl, cr, co, bodyOf, thenS_normal, thenS_ret, thenS_exit, thenS_goto, afterN_normal, afterN_ret, afterN_exit, afterN_goto, condS_true, condS_false, blockS_normal, blockS_ret, blockS_exit, blockS_goto, loopS_exit, loopS_ret, plainS_some, drawS_some, fpsOk, disj, unord, mem, range', dropTo, enumT, undef, wrap_i64_id, Value.cells, mkCells, ptrTo, scal, cellsAt, rdN, endS_ret, resultsA, Option.bind_some, tupV, finish, reach, reachN, dep, ptrL_eq, ptrL, renL_eq, renL, ptrV_bool, ptrV_int, ptrV_string, ptrV_nilFunc, ptrV_nilIface, ptrV_nilPtr, ptrV_ptr, ptrV_nilSl, ptrV_sl, ptrV_iface, ptrV_agg, ptrV_tuple, ptrV_func, renV_bool, renV_int, renV_string, renV_nilFunc, renV_nilIface, renV_nilPtr, renV_ptr, renV_nilSl, renV_sl, renV_iface, renV_agg, renV_tuple, renV_func, loadA_eq ia_59, za_24, sz_24, loadA_eq ia_24, loadA_eq ia_60, za_35, sz_35, loadA_eq ia_35, o_fieldAddr fa_35_2 (by decide), loadA_eq ia_3, o_fieldAddr fa_35_3 (by decide), o_fieldAddr fa_35_0 (by decide), o_fieldAddr fa_35_1 (by decide), o_fieldAddr fa_24_0 (by decide), o_fieldAddr fa_24_1 (by decide), o_fieldAddr fa_24_2 (by decide), o_fieldAddr fa_24_3 (by decide), loadA_eq ia_22, lenA_sl lk_22, o_indexAddrS es_22, o_fieldAddr fa_89_0 (by decide), o_indexAddrA ea_83, o_indexAddrA ea_82, o_build za_35 pl_35, o_fieldAddr fa_89_1 (by decide), o_indexAddrA ea_87, o_indexAddrA ea_86, loadA_eq ia_85, o_fieldAddr fa_59_0 (by decide), loadA_eq ia_5, o_convI cv_5_3, o_fieldAddr fa_59_1 (by decide), o_fieldAddr fa_59_2 (by decide), o_build za_24 pl_24, o_fieldAddr fa_59_3 (by decide), loadA_eq ia_57, lenA_sl lk_57, o_indexAddrS es_57, ze_22, o_buildSlice es_22 ze_22 (by decide) ba_22_1, ap_22, builtin_append ni_22, sz_22, o_indexAddrA ea_60, za_3, sz_3, za_89, o_build za_89 pl_89, za_90, sz_90, za_79, sz_79, loadA_eq ia_79, loadA_eq ia_90, lenA_sl lk_101, o_indexAddrS es_101, sz_85, o_mkI ii_93, ze_101, o_buildSlice es_101 ze_101 (by decide) ba_101_1, ap_101, builtin_append ni_101, o_mkI ii_94, za_103, o_build za_103 pl_103, o_indexAddrS es_104, ze_104, o_buildSlice es_104 ze_104 (by decide) ba_104_4, lenA_sl lk_104, loadA_eq ia_103, sz_103, o_fieldAddr fa_103_2 (by decide), o_fieldAddr fa_103_0 (by decide), o_fieldAddr fa_103_1 (by decide), sweep, ptrT, renT, renFn, ptrFn, optAll, renB_flat, ptrB_flat, idx, ptrB_lin, renB_lin, ptrB_plan, renB_plan, w1, w2]
theorem addWr_or {wr u : List Nat} (h1 : wr = [] ∨ wr = [1]) (h2 : u = [] ∨ u = [1]) : addWr 3 wr u = [] ∨ addWr 3 wr u = [1] := by
  rcases h1 with rfl | rfl <;> rcases h2 with rfl | rfl <;> first | exact .inl rfl | exact .inr rfl
theorem next54 (d lay : Bool) (hX : 0 ≤ X ∧ X + W ≤ 1000) (hY : 0 ≤ Y ∧ Y + H ≤ 1000) (hW : W ≤ 8) (hH : H ≤ 8) (hP : ∀ w h, 1 ≤ w → 1 ≤ h → w ≤ 8 → h ≤ 8 → w + h < W + H → P54 w h) (hlen : l.length ≤ 100)
    (S : Sz) (hS : DC S) (i : Nat) (p : Ln) (hi : l[i]? = some p) (hp : if p.1 then 1 ≤ p.2 ∧ p.2 < W ∧ 1 ≤ H else 1 ≤ p.2 ∧ p.2 < H ∧ 1 ≤ W) (way : Option Ln) (least : Int) (wr : List Nat) (hw : wr = [] ∨ wr = [1]) :
    ∃ wr', (wr' = [] ∨ wr' = [1]) ∧ ∀ r, codeB Try.prog LL ⟨54, 98, 3, none⟩ n54_18 ⟨pre54 X Y W H l 3 (T54 X Y W H d 4) ((i + 1 : Nat) : Int) (updL W H (least, way) p).2 (updL W H (least, way) p).1, hN X Y W H l (addP W H S p), wr'⟩ = some r →
      codeB Try.prog LL ⟨54, 98, 3, none⟩ n54_18 ⟨pre54 X Y W H l (lnOf lay) (T54 X Y W H d (bxOf lay)) i way least, aB :: planB S :: fB :: restOf lay (boxOf X Y W H) l, wr⟩ = some r := by
  have hbig : (T54 X Y W H d (bxOf lay)).all (fun p => Nat.blt p.1 47) = true := by cases d <;> rfl
  obtain ⟨wr', e, hc⟩ := rnd54 X Y W H l lay hX hY hW hH hP hlen (T54 X Y W H d (bxOf lay)) (by cases d <;> rfl) (by cases d <;> rfl) (has_big hbig) (by cases d <;> rfl) (by cases d <;> rfl) (by cases d <;> rfl) (by cases d <;> rfl) S hS i p hi hp way least wr
  have hw' : wr' = [] ∨ wr' = [1] := by rw [e]; exact addWr_or (addWr_or hw (wl_or _ _ _)) (wl_or _ _ _)
  refine ⟨wr', hw', fun r hr => ?_⟩
  rw [n54_18s, hc]
  rw [loopS_grow (by cases lay <;> simp [restOf])]
  have hd : dropTo (List.length (pre54 X Y W H l (lnOf lay) (T54 X Y W H d (bxOf lay)) i way least)) ((76, iv ((i : Int) + 1)) :: (47, .bool true) :: pre54 X Y W H l (lnOf lay) (T54 X Y W H d (bxOf lay)) (i + 1) (updL W H (least, way) p).2 (updL W H (least, way) p).1) = pre54 X Y W H l (lnOf lay) (T54 X Y W H d (bxOf lay)) (i + 1) (updL W H (least, way) p).2 (updL W H (least, way) p).1 := by
    rw [drop_cons (by simp [pre54]), drop_cons (by simp [pre54]), drop_self (by simp [pre54])]
  rw [hd, sw54 X Y W H l d lay (i + 1) _ _ _ _ _ wr' hw']
  exact L_code hr
theorem loop54 (d : Bool) (hX : 0 ≤ X ∧ X + W ≤ 1000) (hY : 0 ≤ Y ∧ Y + H ≤ 1000) (hW : W ≤ 8) (hH : H ≤ 8) (hP : ∀ w h, 1 ≤ w → 1 ≤ h → w ≤ 8 → h ≤ 8 → w + h < W + H → P54 w h) (hlen : l.length ≤ 100)
    (hl : ∀ p, p ∈ l → if p.1 then 1 ≤ p.2 ∧ p.2 < W ∧ 1 ≤ H else 1 ≤ p.2 ∧ p.2 < H ∧ 1 ≤ W) : ∀ k i : Nat, i + k = l.length → ∀ (S : Sz) (way : Option Ln) (least : Int) (wr : List Nat), DC S → (wr = [] ∨ wr = [1]) →
    ∃ wr', (wr' = [] ∨ wr' = [1]) ∧ codeB Try.prog LL ⟨54, 98, 3, none⟩ n54_18 ⟨pre54 X Y W H l 3 (T54 X Y W H d 4) i way least, hN X Y W H l S, wr⟩ =
      some (.exit 0, ⟨(47, .bool false) :: pre54 X Y W H l 3 (T54 X Y W H d 4) l.length ((l.drop i).foldl (updL W H) (least, way)).2 ((l.drop i).foldl (updL W H) (least, way)).1, hN X Y W H l ((l.drop i).foldl (addP W H) S), wr'⟩) := by
  intro k
  induction k with
  | zero =>
    intro i hi S way least wr hS hw
    obtain rfl : l.length = i := by omega
    refine ⟨wr, hw, ?_⟩
    rw [n54_18s]
    simp only [List.drop_length, List.foldl_nil]
    simp only [pre54, hN]
    have hb : ∀ t, 47 ≤ t → has (T54 X Y W H d 4) t = false := has_big (by cases d <;> rfl)
    simp (disch := first | omega | decide | assumption | simp [scal]) [runOps_nil, runOps_cons, runOpsF_nil, runOpsF_cons, fstS_some, fstF_some, opStep_eq, want_none, oStep_true, oStep_false, fin_pure, fin_read, fin_alloc, fin_write, storeB, wrN, cellV, addWr, o_move, o_assign, o_pick, o_alloc, o_box, o_load, o_store, o_nilCheck, o_bin, o_un, o_extract, o_callV, o_callB, o_callI, callV_f, callV_y, callV_fc, o_makeFunc, partsA, Instr.fill, builtin_len, builtin_max2, bin_add, bin_sub, bin_mul, bin_quo, bin_rem, bin_lss, bin_leq, bin_gtr, bin_geq, bin_eql, bin_neq, un_neg, un_not, opd, opds, optAll, lk, putO, put, has, rep, nbeq, nblt, constOk, isC, ops, sub, cl, cr, co, bodyOf, thenS_normal, thenS_ret, thenS_exit, thenS_goto, afterN_normal, afterN_ret, afterN_exit, afterN_goto, condS_true, condS_false, blockS_normal, blockS_ret, blockS_exit, blockS_goto, loopS_exit, loopS_ret, plainS_some, drawS_some, fpsOk, disj, unord, mem, range', dropTo, enumT, undef, wrap_i64_id, Value.cells, mkCells, ptrTo, scal, cellsAt, rdN, endS_ret, resultsA, Option.bind_some, tupV, finish, reach, reachN, dep, ptrL_eq, ptrL, renL_eq, renL, ptrV_bool, ptrV_int, ptrV_string, ptrV_nilFunc, ptrV_nilIface, ptrV_nilPtr, ptrV_ptr, ptrV_nilSl, ptrV_sl, ptrV_iface, ptrV_agg, ptrV_tuple, ptrV_func, renV_bool, renV_int, renV_string, renV_nilFunc, renV_nilIface, renV_nilPtr, renV_ptr, renV_nilSl, renV_sl, renV_iface, renV_agg, renV_tuple, renV_func, o_fieldAddr fa_35_2 (by decide), loadA_eq ia_3, o_fieldAddr fa_35_3 (by decide), loadA_eq ia_90, o_fieldAddr fa_89_1 (by decide), o_indexAddrA ea_87, o_indexAddrA ea_86, loadA_eq ia_85, o_fieldAddr fa_89_0 (by decide), o_indexAddrA ea_83, o_indexAddrA ea_82, loadA_eq ia_35, lenA_sl lk_101, o_indexAddrS es_101, za_35, sz_35, loadA_eq ia_79, sz_3, sz_85, n54_1s, n54_4s, n54_7s, n54_8s, n54_6s, n54_9s, n54_5s, n54_3s, n54_11s, n54_13s, n54_16s, n54_20s, n54_23s, n54_24s, n54_22s, n54_28s, n54_30s, n54_32s, n54_34s, n54_36s, n54_37s, n54_35s, n54_33s, n54_31s, n54_29s, n54_27s, n54_26s, n54_38s, n54_25s, n54_21s, n54_19s, n54_17s, n54_15s, n54_40s, n54_42s, n54_43s, n54_41s, n54_39s, n54_14s, n54_12s, n54_10s, n54_2s, n54_0s, want_some q54_4g3, want_some q54_4g8, want_some q54_34g2, Try.f54, -dropTo, drop_cons, drop_self, hb]
  | succ k ih =>
    intro i hi S way least wr hS hw
    have e1 : i < l.length := by omega
    have e2 : l[i]? = some l[i] := List.getElem?_eq_getElem e1
    have e3 : l.drop i = l[i] :: l.drop (i + 1) := List.drop_eq_getElem_cons e1
    have hp := hl l[i] (List.getElem_mem e1)
    generalize l[i] = p at *
    obtain ⟨wr1, h1, h2⟩ := next54 X Y W H l d true hX hY hW hH hP hlen S hS i p e2 hp way least wr hw
    have hS' : DC (addP W H S p) := by
      unfold addP
      obtain ⟨tag, m⟩ := p
      cases tag <;> simp only [Bool.false_eq_true, if_true, if_false] at hp <;> simp only [one, two, Bool.false_eq_true, if_true, if_false] <;> exact (hS.add (by omega) (by omega)).add (by omega) (by omega)
    obtain ⟨wr2, h3, h4⟩ := ih (i + 1) (by omega) (addP W H S p) (updL W H (least, way) p).2 (updL W H (least, way) p).1 wr1 hS' h1
    refine ⟨wr2, h3, ?_⟩
    rw [e3]
    simp only [List.foldl_cons]
    exact h2 _ h4
end
end Go.Proofs.Ytgpcjdhlijompaa.ore
namespace Go.Proofs.Ytgpcjdhlijompaa.ore
open Go.GE
set_option linter.unusedVariables false
set_option linter.unusedSimpArgs false
set_option maxRecDepth 100000
def inB (p : Nat × Nat) (w h : Nat) : Prop := 1 ≤ w ∧ w ≤ p.1 ∧ 1 ≤ h ∧ h ≤ p.2 ∧ ¬ (w = 1 ∧ h = 1)
theorem add_iff {S : Sz} {p : Nat × Nat} {w h : Nat} : add S p.1 p.2 w h = true ↔ S w h = true ∨ inB p w h := by
  simp only [add, Bool.or_eq_true, decide_eq_true_eq, inB]
theorem fold_iff {W H : Nat} {w h : Nat} : ∀ {l : List Ln} {S : Sz}, l.foldl (addP W H) S w h = true ↔ S w h = true ∨ ∃ p, p ∈ l ∧ (inB (one W H p) w h ∨ inB (two W H p) w h) := by
  intro l
  induction l with
  | nil => intro S; simp
  | cons q l ih =>
    intro S
    rw [List.foldl_cons, ih]
    unfold addP
    rw [add_iff, add_iff]
    constructor
    · rintro (((h | h) | h) | ⟨p, hp, h⟩)
      · exact .inl h
      · exact .inr ⟨q, by simp, .inl h⟩
      · exact .inr ⟨q, by simp, .inr h⟩
      · exact .inr ⟨p, by simp [hp], h⟩
    · rintro (h | ⟨p, hp, h⟩)
      · exact .inl (.inl (.inl h))
      · rcases List.mem_cons.1 hp with rfl | hp
        · rcases h with h | h
          · exact .inl (.inl (.inr h))
          · exact .inl (.inr h)
        · exact .inr ⟨p, hp, h⟩
theorem line_mem {W H : Nat} {p : Ln} (h : p ∈ lineL W H) (hW : 1 ≤ W) (hH : 1 ≤ H) : if p.1 then 1 ≤ p.2 ∧ p.2 < W ∧ 1 ≤ H else 1 ≤ p.2 ∧ p.2 < H ∧ 1 ≤ W := by
  unfold lineL ups levs at h
  rw [List.mem_append, List.mem_map, List.mem_map] at h
  rcases h with ⟨i, hi, rfl⟩ | ⟨i, hi, rfl⟩
  · have := List.mem_range.1 hi
    simp only [if_true]; omega
  · have := List.mem_range.1 hi
    simp only [Bool.false_eq_true, if_false]; omega
theorem mem_up {W H n : Nat} (h1 : 1 ≤ n) (h2 : n < W) : (true, n) ∈ lineL W H := by
  unfold lineL ups
  rw [List.mem_append]; left
  exact List.mem_map.2 ⟨n - 1, List.mem_range.2 (by omega), by congr 1; omega⟩
theorem mem_lev {W H n : Nat} (h1 : 1 ≤ n) (h2 : n < H) : (false, n) ∈ lineL W H := by
  unfold lineL levs
  rw [List.mem_append]; right
  exact List.mem_map.2 ⟨n - 1, List.mem_range.2 (by omega), by congr 1; omega⟩
theorem line_len (W H : Nat) : (lineL W H).length = (W - 1) + (H - 1) := by simp [lineL, ups, levs]
theorem end54 {S : Sz} {W H : Nat} (hW : 1 ≤ W) (hH : 1 ≤ H) (hne : ¬ (W = 1 ∧ H = 1)) : add1 ((lineL W H).foldl (addP W H) S) W H = add S W H := by
  funext w h
  rw [Bool.eq_iff_iff]
  have e1 : add S W H w h = true ↔ S w h = true ∨ inB (W, H) w h := add_iff (p := (W, H))
  rw [e1]
  simp only [add1, Bool.or_eq_true, Bool.and_eq_true, decide_eq_true_eq]
  rw [fold_iff]
  constructor
  · rintro ((h1 | ⟨p, hp, h1⟩) | ⟨rfl, rfl⟩)
    · exact .inl h1
    · right
      have hm := line_mem hp hW hH
      obtain ⟨tag, m⟩ := p
      cases tag <;> simp only [Bool.false_eq_true, if_true, if_false] at hm <;> simp only [one, two, Bool.false_eq_true, if_true, if_false, inB] at h1 ⊢ <;> omega
    · right; unfold inB; simp only; omega
  · rintro (h1 | h1)
    · exact .inl (.inl h1)
    · unfold inB at h1
      simp only at h1
      by_cases hw : w < W
      · exact .inl (.inr ⟨_, mem_up h1.1 hw, .inl (by simp only [one, if_true, inB]; omega)⟩)
      · by_cases hh : h < H
        · exact .inl (.inr ⟨_, mem_lev h1.2.2.1 hh, .inl (by simp only [one, Bool.false_eq_true, if_false, inB]; omega)⟩)
        · right; omega
theorem wv_some {q : Ln} : wv (some q) = .iface (if q.1 then 93 else 94) (iv q.2) := rfl
theorem wv_none : wv none = .nilIface := rfl
theorem ptrB_plan' {S : Sz} : ptrB (.cells (planL S) 1 false true) = [] := ptrB_plan
theorem renB_plan' {f : Nat → Option Nat} {S : Sz} : renB f (.cells (planL S) 1 false true) = some (.cells (planL S) 1 false true) := renB_plan
theorem k55 (X Y : Int) (W H : Nat) (hW : 1 ≤ W ∧ W ≤ 100) (hH : 1 ≤ H ∧ H ≤ 100) (hne : ¬ (W = 1 ∧ H = 1)) (h : List Blk) :
    callH LL 55 [bv X Y W H] h = some ⟨.slice (some ⟨h.length, 0, none⟩) (lineL W H).length (lineL W H).length, h ++ [linB (lineL W H)], [], []⟩ := by
  have e := c55 X Y W H hW hH
  have hl : lineL W H ≠ [] := by
    intro h0
    have := line_len W H
    rw [h0] at this
    simp at this
    omega
  generalize lineL W H = l at *
  cases l with
  | nil => exact absurd rfl hl
  | cons q t =>
    unfold callH
    simp only [ptr_plains (vs := [bv X Y W H]) rfl]
    have hr : reach h 0 reachN [] [] = [] := rfl
    have hr2 : optAll (renV (idx []) dep) [bv X Y W H] = some [bv X Y W H] := ren_plains rfl
    simp only [hr, hr2]
    simp [optAll, e, mergeB, slL, blL, renV_sl, dep, nblt, renB_lin]
set_option maxHeartbeats 4000000 in
theorem c54 (W H : Nat) (hW : 1 ≤ W ∧ W ≤ 8) (hH : 1 ≤ H ∧ H ≤ 8) (hP : ∀ w h, 1 ≤ w → 1 ≤ h → w ≤ 8 → h ≤ 8 → w + h < W + H → P54 w h) : P54 W H := by
  intro X Y S hS hx1 hx2 hy1 hy2
  refine go (by decide) ?_
  rw [run54 _ _ _ (by simp)]
  have w9 : W < 9 := by omega
  have h9 : H < 9 := by omega
  have wi : (W : Int) < 9 := by omega
  have hi : (H : Int) < 9 := by omega
  have pT := plan_T (S := S) w9 h9
  have pB := plan_B (S := S) w9 h9
  have bT := best_T w9 h9 hW.1 hH.1
  by_cases h11 : W = 1 ∧ H = 1
  · obtain ⟨rfl, rfl⟩ := h11
    have hs : S 1 1 = false := by
      cases h : S 1 1 with
      | false => rfl
      | true => exact absurd ⟨rfl, rfl⟩ (hS.in' 1 1 h).2.2.2.2
    have ht : hit S 1 1 := .inl ⟨rfl, rfl⟩
    have tt : tT 1 1 = 0 := by decide
    simp only [hs, Bool.false_eq_true, if_false] at pT
    simp only [ht, if_true, tt]
    simp only [aB, fB, planB]
    simp (disch := first | omega | decide | assumption | simp [scal]) [runOps_nil, runOps_cons, runOpsF_nil, runOpsF_cons, fstS_some, fstF_some, opStep_eq, want_none, oStep_true, oStep_false, fin_pure, fin_read, fin_alloc, fin_write, storeB, wrN, cellV, addWr, o_move, o_assign, o_pick, o_alloc, o_box, o_load, o_store, o_nilCheck, o_bin, o_un, o_extract, o_callV, o_callB, o_callI, callV_f, callV_y, callV_fc, o_makeFunc, partsA, Instr.fill, builtin_len, builtin_max2, bin_add, bin_sub, bin_mul, bin_quo, bin_rem, bin_lss, bin_leq, bin_gtr, bin_geq, bin_eql, bin_neq, un_neg, un_not, opd, opds, optAll, lk, putO, put, has, rep, nbeq, nblt, constOk, isC, ops, sub, cl, cr, co, bodyOf, thenS_normal, thenS_ret, thenS_exit, thenS_goto, afterN_normal, afterN_ret, afterN_exit, afterN_goto, condS_true, condS_false, blockS_normal, blockS_ret, blockS_exit, blockS_goto, loopS_exit, loopS_ret, plainS_some, drawS_some, fpsOk, disj, unord, mem, range', dropTo, enumT, undef, wrap_i64_id, Value.cells, mkCells, ptrTo, scal, cellsAt, rdN, endS_ret, resultsA, Option.bind_some, tupV, finish, reach, reachN, dep, ptrL_eq, ptrL, renL_eq, renL, ptrV_bool, ptrV_int, ptrV_string, ptrV_nilFunc, ptrV_nilIface, ptrV_nilPtr, ptrV_ptr, ptrV_nilSl, ptrV_sl, ptrV_iface, ptrV_agg, ptrV_tuple, ptrV_func, renV_bool, renV_int, renV_string, renV_nilFunc, renV_nilIface, renV_nilPtr, renV_ptr, renV_nilSl, renV_sl, renV_iface, renV_agg, renV_tuple, renV_func, o_fieldAddr fa_35_2 (by decide), loadA_eq ia_3, o_fieldAddr fa_35_3 (by decide), loadA_eq ia_90, o_fieldAddr fa_89_1 (by decide), o_indexAddrA ea_87, o_indexAddrA ea_86, loadA_eq ia_85, o_fieldAddr fa_89_0 (by decide), o_indexAddrA ea_83, o_indexAddrA ea_82, loadA_eq ia_35, lenA_sl lk_101, o_indexAddrS es_101, za_35, sz_35, loadA_eq ia_79, sz_3, sz_85, n54_1s, n54_4s, n54_7s, n54_8s, n54_6s, n54_9s, n54_5s, n54_3s, n54_11s, n54_13s, n54_16s, n54_20s, n54_23s, n54_24s, n54_22s, n54_28s, n54_30s, n54_32s, n54_34s, n54_36s, n54_37s, n54_35s, n54_33s, n54_31s, n54_29s, n54_27s, n54_26s, n54_38s, n54_25s, n54_21s, n54_19s, n54_17s, n54_15s, n54_40s, n54_42s, n54_43s, n54_41s, n54_39s, n54_14s, n54_12s, n54_10s, n54_2s, n54_0s, want_some q54_4g3, want_some q54_4g8, want_some q54_34g2, Try.f54, pT]
  · cases hs : S W H with
    | true =>
      have ht : hit S W H := .inr hs
      have hb : tB W H ≠ none := fun h => h11 (bT.2.1 h)
      obtain ⟨q, hq⟩ := Option.ne_none_iff_exists'.1 hb
      simp only [hs, if_true, hq, wv] at pT pB
      simp only [ht, if_true]
      simp only [aB, fB, planB, lv] at pB ⊢
      by_cases w1 : (W : Int) = 1
      · have h1 : ¬ (H : Int) = 1 := fun h => h11 ⟨by omega, by omega⟩
        simp (disch := first | omega | decide | assumption | simp [scal]) [runOps_nil, runOps_cons, runOpsF_nil, runOpsF_cons, fstS_some, fstF_some, opStep_eq, want_none, oStep_true, oStep_false, fin_pure, fin_read, fin_alloc, fin_write, storeB, wrN, cellV, addWr, o_move, o_assign, o_pick, o_alloc, o_box, o_load, o_store, o_nilCheck, o_bin, o_un, o_extract, o_callV, o_callB, o_callI, callV_f, callV_y, callV_fc, o_makeFunc, partsA, Instr.fill, builtin_len, builtin_max2, bin_add, bin_sub, bin_mul, bin_quo, bin_rem, bin_lss, bin_leq, bin_gtr, bin_geq, bin_eql, bin_neq, un_neg, un_not, opd, opds, optAll, lk, putO, put, has, rep, nbeq, nblt, constOk, isC, ops, sub, cl, cr, co, bodyOf, thenS_normal, thenS_ret, thenS_exit, thenS_goto, afterN_normal, afterN_ret, afterN_exit, afterN_goto, condS_true, condS_false, blockS_normal, blockS_ret, blockS_exit, blockS_goto, loopS_exit, loopS_ret, plainS_some, drawS_some, fpsOk, disj, unord, mem, range', dropTo, enumT, undef, wrap_i64_id, Value.cells, mkCells, ptrTo, scal, cellsAt, rdN, endS_ret, resultsA, Option.bind_some, tupV, finish, reach, reachN, dep, ptrL_eq, ptrL, renL_eq, renL, ptrV_bool, ptrV_int, ptrV_string, ptrV_nilFunc, ptrV_nilIface, ptrV_nilPtr, ptrV_ptr, ptrV_nilSl, ptrV_sl, ptrV_iface, ptrV_agg, ptrV_tuple, ptrV_func, renV_bool, renV_int, renV_string, renV_nilFunc, renV_nilIface, renV_nilPtr, renV_ptr, renV_nilSl, renV_sl, renV_iface, renV_agg, renV_tuple, renV_func, o_fieldAddr fa_35_2 (by decide), loadA_eq ia_3, o_fieldAddr fa_35_3 (by decide), loadA_eq ia_90, o_fieldAddr fa_89_1 (by decide), o_indexAddrA ea_87, o_indexAddrA ea_86, loadA_eq ia_85, o_fieldAddr fa_89_0 (by decide), o_indexAddrA ea_83, o_indexAddrA ea_82, loadA_eq ia_35, lenA_sl lk_101, o_indexAddrS es_101, za_35, sz_35, loadA_eq ia_79, sz_3, sz_85, n54_1s, n54_4s, n54_7s, n54_8s, n54_6s, n54_9s, n54_5s, n54_3s, n54_11s, n54_13s, n54_16s, n54_20s, n54_23s, n54_24s, n54_22s, n54_28s, n54_30s, n54_32s, n54_34s, n54_36s, n54_37s, n54_35s, n54_33s, n54_31s, n54_29s, n54_27s, n54_26s, n54_38s, n54_25s, n54_21s, n54_19s, n54_17s, n54_15s, n54_40s, n54_42s, n54_43s, n54_41s, n54_39s, n54_14s, n54_12s, n54_10s, n54_2s, n54_0s, want_some q54_4g3, want_some q54_4g8, want_some q54_34g2, Try.f54, pT, pB, wi, hi, eq_true w1, h1, neqI1]
      · simp (disch := first | omega | decide | assumption | simp [scal]) [runOps_nil, runOps_cons, runOpsF_nil, runOpsF_cons, fstS_some, fstF_some, opStep_eq, want_none, oStep_true, oStep_false, fin_pure, fin_read, fin_alloc, fin_write, storeB, wrN, cellV, addWr, o_move, o_assign, o_pick, o_alloc, o_box, o_load, o_store, o_nilCheck, o_bin, o_un, o_extract, o_callV, o_callB, o_callI, callV_f, callV_y, callV_fc, o_makeFunc, partsA, Instr.fill, builtin_len, builtin_max2, bin_add, bin_sub, bin_mul, bin_quo, bin_rem, bin_lss, bin_leq, bin_gtr, bin_geq, bin_eql, bin_neq, un_neg, un_not, opd, opds, optAll, lk, putO, put, has, rep, nbeq, nblt, constOk, isC, ops, sub, cl, cr, co, bodyOf, thenS_normal, thenS_ret, thenS_exit, thenS_goto, afterN_normal, afterN_ret, afterN_exit, afterN_goto, condS_true, condS_false, blockS_normal, blockS_ret, blockS_exit, blockS_goto, loopS_exit, loopS_ret, plainS_some, drawS_some, fpsOk, disj, unord, mem, range', dropTo, enumT, undef, wrap_i64_id, Value.cells, mkCells, ptrTo, scal, cellsAt, rdN, endS_ret, resultsA, Option.bind_some, tupV, finish, reach, reachN, dep, ptrL_eq, ptrL, renL_eq, renL, ptrV_bool, ptrV_int, ptrV_string, ptrV_nilFunc, ptrV_nilIface, ptrV_nilPtr, ptrV_ptr, ptrV_nilSl, ptrV_sl, ptrV_iface, ptrV_agg, ptrV_tuple, ptrV_func, renV_bool, renV_int, renV_string, renV_nilFunc, renV_nilIface, renV_nilPtr, renV_ptr, renV_nilSl, renV_sl, renV_iface, renV_agg, renV_tuple, renV_func, o_fieldAddr fa_35_2 (by decide), loadA_eq ia_3, o_fieldAddr fa_35_3 (by decide), loadA_eq ia_90, o_fieldAddr fa_89_1 (by decide), o_indexAddrA ea_87, o_indexAddrA ea_86, loadA_eq ia_85, o_fieldAddr fa_89_0 (by decide), o_indexAddrA ea_83, o_indexAddrA ea_82, loadA_eq ia_35, lenA_sl lk_101, o_indexAddrS es_101, za_35, sz_35, loadA_eq ia_79, sz_3, sz_85, n54_1s, n54_4s, n54_7s, n54_8s, n54_6s, n54_9s, n54_5s, n54_3s, n54_11s, n54_13s, n54_16s, n54_20s, n54_23s, n54_24s, n54_22s, n54_28s, n54_30s, n54_32s, n54_34s, n54_36s, n54_37s, n54_35s, n54_33s, n54_31s, n54_29s, n54_27s, n54_26s, n54_38s, n54_25s, n54_21s, n54_19s, n54_17s, n54_15s, n54_40s, n54_42s, n54_43s, n54_41s, n54_39s, n54_14s, n54_12s, n54_10s, n54_2s, n54_0s, want_some q54_4g3, want_some q54_4g8, want_some q54_34g2, Try.f54, pT, pB, wi, hi, w1, neqI1]
    | false =>
      have ht : ¬ hit S W H := fun h => by
        rcases h with h | h
        · exact h11 h
        · rw [hs] at h; cases h
      have hb : tB W H ≠ none := fun h => h11 (bT.2.1 h)
      obtain ⟨q, hq⟩ := Option.ne_none_iff_exists'.1 hb
      have hlen := line_len W H
      have k5 := k55 X Y W H (by omega) (by omega) h11
      have hend := end54 (S := S) hW.1 hH.1 h11
      have hm : ∀ p, p ∈ lineL W H → if p.1 then 1 ≤ p.2 ∧ p.2 < W ∧ 1 ≤ H else 1 ≤ p.2 ∧ p.2 < H ∧ 1 ≤ W := fun p hp => line_mem hp hW.1 hH.1
      have hf1 : ((lineL W H).foldl (updL W H) (0, none)).1 = tT W H := bT.1
      have hf2 : ((lineL W H).foldl (updL W H) (0, none)).2 = tB W H := rfl
      simp only [hs, Bool.false_eq_true, if_false] at pT pB
      simp only [ht, if_false]
      have key : ∀ d : Bool, ∃ wr', (wr' = [] ∨ wr' = [1]) ∧ codeB Try.prog LL ⟨54, 98, 3, none⟩ n54_18 ⟨pre54 X Y W H (lineL W H) 4 (T54 X Y W H d 3) 0 none 0, [aB, planB S, fB, boxOf X Y W H, linB (lineL W H)], []⟩ =
          some (.exit 0, ⟨(47, .bool false) :: pre54 X Y W H (lineL W H) 3 (T54 X Y W H d 4) (lineL W H).length (tB W H) (tT W H), hN X Y W H (lineL W H) ((lineL W H).foldl (addP W H) S), wr'⟩) := by
        intro d
        obtain ⟨p, t, e⟩ : ∃ p t, lineL W H = p :: t := by
          cases h : lineL W H with
          | nil => rw [h] at hlen; simp at hlen; omega
          | cons p t => exact ⟨p, t, rfl⟩
        obtain ⟨wr1, a1, a2⟩ := next54 X Y W H (lineL W H) d false ⟨hx1, hx2⟩ ⟨hy1, hy2⟩ hW.2 hH.2 hP (by omega) S hS 0 p (by rw [e]; rfl) (hm p (by rw [e]; simp)) none 0 [] (.inl rfl)
        have hS' : DC (addP W H S p) := by
          have hp := hm p (by rw [e]; simp)
          unfold addP
          obtain ⟨tag, m⟩ := p
          cases tag <;> simp only [Bool.false_eq_true, if_true, if_false] at hp <;> simp only [one, two, Bool.false_eq_true, if_true, if_false] <;> exact (hS.add (by omega) (by omega)).add (by omega) (by omega)
        obtain ⟨wr2, b1, b2⟩ := loop54 X Y W H (lineL W H) d ⟨hx1, hx2⟩ ⟨hy1, hy2⟩ hW.2 hH.2 hP (by omega) hm ((lineL W H).length - 1) (0 + 1) (by rw [e]; simp; omega) (addP W H S p) (updL W H (0, none) p).2 (updL W H (0, none) p).1 wr1 hS' a1
        refine ⟨wr2, b1, a2 _ ?_⟩
        rw [b2]
        have g1 : (lineL W H).drop (0 + 1) = t := by rw [e]; rfl
        have g2 : t.foldl (updL W H) ((updL W H (0, none) p).1, (updL W H (0, none) p).2) = (lineL W H).foldl (updL W H) (0, none) := by rw [e]; rfl
        have g3 : t.foldl (addP W H) (addP W H S p) = (lineL W H).foldl (addP W H) S := by rw [e]; rfl
        rw [g1, g2, g3, hf1, hf2]
      generalize (lineL W H).foldl (addP W H) S = S' at *
      generalize lineL W H = l at *
      have pS := plan_set (S := S') w9 h9
      rw [hend] at pS
      have b1 : W * 9 + H < 162 := by omega
      have b2 : 81 + W * 9 + H < 162 := by omega
      simp only [pre54, T54, hN, boxOf, aB, fB, planB, wv_none] at key
      by_cases w1 : (W : Int) = 1
      · have h1 : ¬ (H : Int) = 1 := fun h => h11 ⟨by omega, by omega⟩
        obtain ⟨wr', hw, hl⟩ := key true
        simp only [if_true] at hl
        simp only [aB, fB, planB]
        simp (disch := first | omega | decide | assumption | simp [scal]) [runOps_nil, runOps_cons, runOpsF_nil, runOpsF_cons, fstS_some, fstF_some, opStep_eq, want_none, oStep_true, oStep_false, fin_pure, fin_read, fin_alloc, fin_write, storeB, wrN, cellV, addWr, o_move, o_assign, o_pick, o_alloc, o_box, o_load, o_store, o_nilCheck, o_bin, o_un, o_extract, o_callV, o_callB, o_callI, callV_f, callV_y, callV_fc, o_makeFunc, partsA, Instr.fill, builtin_len, builtin_max2, bin_add, bin_sub, bin_mul, bin_quo, bin_rem, bin_lss, bin_leq, bin_gtr, bin_geq, bin_eql, bin_neq, un_neg, un_not, opd, opds, optAll, lk, putO, put, has, rep, nbeq, nblt, constOk, isC, ops, sub, cl, cr, co, bodyOf, thenS_normal, thenS_ret, thenS_exit, thenS_goto, afterN_normal, afterN_ret, afterN_exit, afterN_goto, condS_true, condS_false, blockS_normal, blockS_ret, blockS_exit, blockS_goto, loopS_exit, loopS_ret, plainS_some, drawS_some, fpsOk, disj, unord, mem, range', dropTo, enumT, undef, wrap_i64_id, Value.cells, mkCells, ptrTo, scal, cellsAt, rdN, endS_ret, resultsA, Option.bind_some, tupV, finish, reach, reachN, dep, ptrL_eq, ptrL, renL_eq, renL, ptrV_bool, ptrV_int, ptrV_string, ptrV_nilFunc, ptrV_nilIface, ptrV_nilPtr, ptrV_ptr, ptrV_nilSl, ptrV_sl, ptrV_iface, ptrV_agg, ptrV_tuple, ptrV_func, renV_bool, renV_int, renV_string, renV_nilFunc, renV_nilIface, renV_nilPtr, renV_ptr, renV_nilSl, renV_sl, renV_iface, renV_agg, renV_tuple, renV_func, o_fieldAddr fa_35_2 (by decide), loadA_eq ia_3, o_fieldAddr fa_35_3 (by decide), loadA_eq ia_90, o_fieldAddr fa_89_1 (by decide), o_indexAddrA ea_87, o_indexAddrA ea_86, loadA_eq ia_85, o_fieldAddr fa_89_0 (by decide), o_indexAddrA ea_83, o_indexAddrA ea_82, loadA_eq ia_35, lenA_sl lk_101, o_indexAddrS es_101, za_35, sz_35, loadA_eq ia_79, sz_3, sz_85, n54_1s, n54_4s, n54_7s, n54_8s, n54_6s, n54_9s, n54_5s, n54_3s, n54_11s, n54_13s, n54_16s, n54_20s, n54_23s, n54_24s, n54_22s, n54_28s, n54_30s, n54_32s, n54_34s, n54_36s, n54_37s, n54_35s, n54_33s, n54_31s, n54_29s, n54_27s, n54_26s, n54_38s, n54_25s, n54_21s, n54_19s, n54_17s, n54_15s, n54_40s, n54_42s, n54_43s, n54_41s, n54_39s, n54_14s, n54_12s, n54_10s, n54_2s, n54_0s, want_some q54_4g3, want_some q54_4g8, want_some q54_34g2, Try.f54, pT, pB, wi, hi, eq_true w1, h1, neqI0, k5, lenA_sl lk_101]
        simp only [hq, wv_some] at hl pS
        rw [hl]
        rcases hw with rfl | rfl <;>
        simp (disch := first | omega | decide | assumption | simp [scal]) [runOps_nil, runOps_cons, runOpsF_nil, runOpsF_cons, fstS_some, fstF_some, opStep_eq, want_none, oStep_true, oStep_false, fin_pure, fin_read, fin_alloc, fin_write, storeB, wrN, cellV, addWr, o_move, o_assign, o_pick, o_alloc, o_box, o_load, o_store, o_nilCheck, o_bin, o_un, o_extract, o_callV, o_callB, o_callI, callV_f, callV_y, callV_fc, o_makeFunc, partsA, Instr.fill, builtin_len, builtin_max2, bin_add, bin_sub, bin_mul, bin_quo, bin_rem, bin_lss, bin_leq, bin_gtr, bin_geq, bin_eql, bin_neq, un_neg, un_not, opd, opds, optAll, lk, putO, put, has, rep, nbeq, nblt, constOk, isC, ops, sub, cl, cr, co, bodyOf, thenS_normal, thenS_ret, thenS_exit, thenS_goto, afterN_normal, afterN_ret, afterN_exit, afterN_goto, condS_true, condS_false, blockS_normal, blockS_ret, blockS_exit, blockS_goto, loopS_exit, loopS_ret, plainS_some, drawS_some, fpsOk, disj, unord, mem, range', dropTo, enumT, undef, wrap_i64_id, Value.cells, mkCells, ptrTo, scal, cellsAt, rdN, endS_ret, resultsA, Option.bind_some, tupV, finish, reach, reachN, dep, ptrL_eq, ptrL, renL_eq, renL, ptrV_bool, ptrV_int, ptrV_string, ptrV_nilFunc, ptrV_nilIface, ptrV_nilPtr, ptrV_ptr, ptrV_nilSl, ptrV_sl, ptrV_iface, ptrV_agg, ptrV_tuple, ptrV_func, renV_bool, renV_int, renV_string, renV_nilFunc, renV_nilIface, renV_nilPtr, renV_ptr, renV_nilSl, renV_sl, renV_iface, renV_agg, renV_tuple, renV_func, o_fieldAddr fa_35_2 (by decide), loadA_eq ia_3, o_fieldAddr fa_35_3 (by decide), loadA_eq ia_90, o_fieldAddr fa_89_1 (by decide), o_indexAddrA ea_87, o_indexAddrA ea_86, loadA_eq ia_85, o_fieldAddr fa_89_0 (by decide), o_indexAddrA ea_83, o_indexAddrA ea_82, loadA_eq ia_35, lenA_sl lk_101, o_indexAddrS es_101, za_35, sz_35, loadA_eq ia_79, sz_3, sz_85, n54_1s, n54_4s, n54_7s, n54_8s, n54_6s, n54_9s, n54_5s, n54_3s, n54_11s, n54_13s, n54_16s, n54_20s, n54_23s, n54_24s, n54_22s, n54_28s, n54_30s, n54_32s, n54_34s, n54_36s, n54_37s, n54_35s, n54_33s, n54_31s, n54_29s, n54_27s, n54_26s, n54_38s, n54_25s, n54_21s, n54_19s, n54_17s, n54_15s, n54_40s, n54_42s, n54_43s, n54_41s, n54_39s, n54_14s, n54_12s, n54_10s, n54_2s, n54_0s, want_some q54_4g3, want_some q54_4g8, want_some q54_34g2, Try.f54, b1, b2, plan_len, wi, hi, pS, ins, optAll, ptrB_plan', renB_plan']
      · obtain ⟨wr', hw, hl⟩ := key false
        simp only [Bool.false_eq_true, if_false] at hl
        simp only [aB, fB, planB]
        simp (disch := first | omega | decide | assumption | simp [scal]) [runOps_nil, runOps_cons, runOpsF_nil, runOpsF_cons, fstS_some, fstF_some, opStep_eq, want_none, oStep_true, oStep_false, fin_pure, fin_read, fin_alloc, fin_write, storeB, wrN, cellV, addWr, o_move, o_assign, o_pick, o_alloc, o_box, o_load, o_store, o_nilCheck, o_bin, o_un, o_extract, o_callV, o_callB, o_callI, callV_f, callV_y, callV_fc, o_makeFunc, partsA, Instr.fill, builtin_len, builtin_max2, bin_add, bin_sub, bin_mul, bin_quo, bin_rem, bin_lss, bin_leq, bin_gtr, bin_geq, bin_eql, bin_neq, un_neg, un_not, opd, opds, optAll, lk, putO, put, has, rep, nbeq, nblt, constOk, isC, ops, sub, cl, cr, co, bodyOf, thenS_normal, thenS_ret, thenS_exit, thenS_goto, afterN_normal, afterN_ret, afterN_exit, afterN_goto, condS_true, condS_false, blockS_normal, blockS_ret, blockS_exit, blockS_goto, loopS_exit, loopS_ret, plainS_some, drawS_some, fpsOk, disj, unord, mem, range', dropTo, enumT, undef, wrap_i64_id, Value.cells, mkCells, ptrTo, scal, cellsAt, rdN, endS_ret, resultsA, Option.bind_some, tupV, finish, reach, reachN, dep, ptrL_eq, ptrL, renL_eq, renL, ptrV_bool, ptrV_int, ptrV_string, ptrV_nilFunc, ptrV_nilIface, ptrV_nilPtr, ptrV_ptr, ptrV_nilSl, ptrV_sl, ptrV_iface, ptrV_agg, ptrV_tuple, ptrV_func, renV_bool, renV_int, renV_string, renV_nilFunc, renV_nilIface, renV_nilPtr, renV_ptr, renV_nilSl, renV_sl, renV_iface, renV_agg, renV_tuple, renV_func, o_fieldAddr fa_35_2 (by decide), loadA_eq ia_3, o_fieldAddr fa_35_3 (by decide), loadA_eq ia_90, o_fieldAddr fa_89_1 (by decide), o_indexAddrA ea_87, o_indexAddrA ea_86, loadA_eq ia_85, o_fieldAddr fa_89_0 (by decide), o_indexAddrA ea_83, o_indexAddrA ea_82, loadA_eq ia_35, lenA_sl lk_101, o_indexAddrS es_101, za_35, sz_35, loadA_eq ia_79, sz_3, sz_85, n54_1s, n54_4s, n54_7s, n54_8s, n54_6s, n54_9s, n54_5s, n54_3s, n54_11s, n54_13s, n54_16s, n54_20s, n54_23s, n54_24s, n54_22s, n54_28s, n54_30s, n54_32s, n54_34s, n54_36s, n54_37s, n54_35s, n54_33s, n54_31s, n54_29s, n54_27s, n54_26s, n54_38s, n54_25s, n54_21s, n54_19s, n54_17s, n54_15s, n54_40s, n54_42s, n54_43s, n54_41s, n54_39s, n54_14s, n54_12s, n54_10s, n54_2s, n54_0s, want_some q54_4g3, want_some q54_4g8, want_some q54_34g2, Try.f54, pT, pB, wi, hi, w1, neqI0, k5, lenA_sl lk_101]
        simp only [hq, wv_some] at hl pS
        rw [hl]
        rcases hw with rfl | rfl <;>
        simp (disch := first | omega | decide | assumption | simp [scal]) [runOps_nil, runOps_cons, runOpsF_nil, runOpsF_cons, fstS_some, fstF_some, opStep_eq, want_none, oStep_true, oStep_false, fin_pure, fin_read, fin_alloc, fin_write, storeB, wrN, cellV, addWr, o_move, o_assign, o_pick, o_alloc, o_box, o_load, o_store, o_nilCheck, o_bin, o_un, o_extract, o_callV, o_callB, o_callI, callV_f, callV_y, callV_fc, o_makeFunc, partsA, Instr.fill, builtin_len, builtin_max2, bin_add, bin_sub, bin_mul, bin_quo, bin_rem, bin_lss, bin_leq, bin_gtr, bin_geq, bin_eql, bin_neq, un_neg, un_not, opd, opds, optAll, lk, putO, put, has, rep, nbeq, nblt, constOk, isC, ops, sub, cl, cr, co, bodyOf, thenS_normal, thenS_ret, thenS_exit, thenS_goto, afterN_normal, afterN_ret, afterN_exit, afterN_goto, condS_true, condS_false, blockS_normal, blockS_ret, blockS_exit, blockS_goto, loopS_exit, loopS_ret, plainS_some, drawS_some, fpsOk, disj, unord, mem, range', dropTo, enumT, undef, wrap_i64_id, Value.cells, mkCells, ptrTo, scal, cellsAt, rdN, endS_ret, resultsA, Option.bind_some, tupV, finish, reach, reachN, dep, ptrL_eq, ptrL, renL_eq, renL, ptrV_bool, ptrV_int, ptrV_string, ptrV_nilFunc, ptrV_nilIface, ptrV_nilPtr, ptrV_ptr, ptrV_nilSl, ptrV_sl, ptrV_iface, ptrV_agg, ptrV_tuple, ptrV_func, renV_bool, renV_int, renV_string, renV_nilFunc, renV_nilIface, renV_nilPtr, renV_ptr, renV_nilSl, renV_sl, renV_iface, renV_agg, renV_tuple, renV_func, o_fieldAddr fa_35_2 (by decide), loadA_eq ia_3, o_fieldAddr fa_35_3 (by decide), loadA_eq ia_90, o_fieldAddr fa_89_1 (by decide), o_indexAddrA ea_87, o_indexAddrA ea_86, loadA_eq ia_85, o_fieldAddr fa_89_0 (by decide), o_indexAddrA ea_83, o_indexAddrA ea_82, loadA_eq ia_35, lenA_sl lk_101, o_indexAddrS es_101, za_35, sz_35, loadA_eq ia_79, sz_3, sz_85, n54_1s, n54_4s, n54_7s, n54_8s, n54_6s, n54_9s, n54_5s, n54_3s, n54_11s, n54_13s, n54_16s, n54_20s, n54_23s, n54_24s, n54_22s, n54_28s, n54_30s, n54_32s, n54_34s, n54_36s, n54_37s, n54_35s, n54_33s, n54_31s, n54_29s, n54_27s, n54_26s, n54_38s, n54_25s, n54_21s, n54_19s, n54_17s, n54_15s, n54_40s, n54_42s, n54_43s, n54_41s, n54_39s, n54_14s, n54_12s, n54_10s, n54_2s, n54_0s, want_some q54_4g3, want_some q54_4g8, want_some q54_34g2, Try.f54, b1, b2, plan_len, wi, hi, pS, ins, optAll, ptrB_plan', renB_plan']
end Go.Proofs.Ytgpcjdhlijompaa.ore
namespace Go.Proofs.Ytgpcjdhlijompaa.ore
open Go.GE
set_option linter.unusedVariables false
set_option linter.unusedSimpArgs false
set_option maxRecDepth 1000000
theorem k47 (w h : Int) (hp : List Blk) : callH LL 47 [iv w, iv h] hp = some ⟨.bool (decide ((1 ≤ w ∧ w ≤ 8) ∧ (1 ≤ h ∧ h ≤ 8))), hp, [], []⟩ := by
  refine callH_plain (go (by decide) ?_) rfl rfl
  rw [run47 _ _ _ (by simp)]
  by_cases h1 : 1 ≤ w ∧ w ≤ 8
  · by_cases h2 : 1 ≤ h ∧ h ≤ 8
    · simp (disch := first | omega | decide | assumption | simp [scal]) [runOps_nil, runOps_cons, runOpsF_nil, runOpsF_cons, fstS_some, fstF_some, opStep_eq, want_none, oStep_true, oStep_false, fin_pure, fin_read, fin_alloc, fin_write, storeB, wrN, cellV, addWr, o_move, o_assign, o_pick, o_alloc, o_box, o_load, o_store, o_nilCheck, o_bin, o_un, o_extract, o_callV, o_callB, o_callI, callV_f, callV_y, callV_fc, o_makeFunc, partsA, Instr.fill, builtin_len, builtin_max2, bin_add, bin_sub, bin_mul, bin_quo, bin_rem, bin_lss, bin_leq, bin_gtr, bin_geq, bin_eql, bin_neq, un_neg, un_not, opd, opds, optAll, lk, putO, put, has, rep, nbeq, nblt, constOk, isC, ops, sub, cl, cr, co, bodyOf, thenS_normal, thenS_ret, thenS_exit, thenS_goto, afterN_normal, afterN_ret, afterN_exit, afterN_goto, condS_true, condS_false, blockS_normal, blockS_ret, blockS_exit, blockS_goto, loopS_exit, loopS_ret, plainS_some, drawS_some, fpsOk, disj, unord, mem, range', dropTo, enumT, undef, wrap_i64_id, Value.cells, mkCells, ptrTo, scal, cellsAt, rdN, endS_ret, resultsA, Option.bind_some, tupV, finish, reach, reachN, dep, ptrL_eq, ptrL, renL_eq, renL, ptrV_bool, ptrV_int, ptrV_string, ptrV_nilFunc, ptrV_nilIface, ptrV_nilPtr, ptrV_ptr, ptrV_nilSl, ptrV_sl, ptrV_iface, ptrV_agg, ptrV_tuple, ptrV_func, renV_bool, renV_int, renV_string, renV_nilFunc, renV_nilIface, renV_nilPtr, renV_ptr, renV_nilSl, renV_sl, renV_iface, renV_agg, renV_tuple, renV_func, n47_1s, n47_3s, n47_4s, n47_2s, n47_0s, want_some q47_3g2, Try.f47, k36, h1, h2]
    · have h3 : (decide (1 ≤ h) && decide (h ≤ 8)) = false := by simp; omega
      simp (disch := first | omega | decide | assumption | simp [scal]) [runOps_nil, runOps_cons, runOpsF_nil, runOpsF_cons, fstS_some, fstF_some, opStep_eq, want_none, oStep_true, oStep_false, fin_pure, fin_read, fin_alloc, fin_write, storeB, wrN, cellV, addWr, o_move, o_assign, o_pick, o_alloc, o_box, o_load, o_store, o_nilCheck, o_bin, o_un, o_extract, o_callV, o_callB, o_callI, callV_f, callV_y, callV_fc, o_makeFunc, partsA, Instr.fill, builtin_len, builtin_max2, bin_add, bin_sub, bin_mul, bin_quo, bin_rem, bin_lss, bin_leq, bin_gtr, bin_geq, bin_eql, bin_neq, un_neg, un_not, opd, opds, optAll, lk, putO, put, has, rep, nbeq, nblt, constOk, isC, ops, sub, cl, cr, co, bodyOf, thenS_normal, thenS_ret, thenS_exit, thenS_goto, afterN_normal, afterN_ret, afterN_exit, afterN_goto, condS_true, condS_false, blockS_normal, blockS_ret, blockS_exit, blockS_goto, loopS_exit, loopS_ret, plainS_some, drawS_some, fpsOk, disj, unord, mem, range', dropTo, enumT, undef, wrap_i64_id, Value.cells, mkCells, ptrTo, scal, cellsAt, rdN, endS_ret, resultsA, Option.bind_some, tupV, finish, reach, reachN, dep, ptrL_eq, ptrL, renL_eq, renL, ptrV_bool, ptrV_int, ptrV_string, ptrV_nilFunc, ptrV_nilIface, ptrV_nilPtr, ptrV_ptr, ptrV_nilSl, ptrV_sl, ptrV_iface, ptrV_agg, ptrV_tuple, ptrV_func, renV_bool, renV_int, renV_string, renV_nilFunc, renV_nilIface, renV_nilPtr, renV_ptr, renV_nilSl, renV_sl, renV_iface, renV_agg, renV_tuple, renV_func, n47_1s, n47_3s, n47_4s, n47_2s, n47_0s, want_some q47_3g2, Try.f47, k36, h1, h2, h3]
  · have h3 : (decide (1 ≤ w) && decide (w ≤ 8)) = false := by simp; omega
    simp (disch := first | omega | decide | assumption | simp [scal]) [runOps_nil, runOps_cons, runOpsF_nil, runOpsF_cons, fstS_some, fstF_some, opStep_eq, want_none, oStep_true, oStep_false, fin_pure, fin_read, fin_alloc, fin_write, storeB, wrN, cellV, addWr, o_move, o_assign, o_pick, o_alloc, o_box, o_load, o_store, o_nilCheck, o_bin, o_un, o_extract, o_callV, o_callB, o_callI, callV_f, callV_y, callV_fc, o_makeFunc, partsA, Instr.fill, builtin_len, builtin_max2, bin_add, bin_sub, bin_mul, bin_quo, bin_rem, bin_lss, bin_leq, bin_gtr, bin_geq, bin_eql, bin_neq, un_neg, un_not, opd, opds, optAll, lk, putO, put, has, rep, nbeq, nblt, constOk, isC, ops, sub, cl, cr, co, bodyOf, thenS_normal, thenS_ret, thenS_exit, thenS_goto, afterN_normal, afterN_ret, afterN_exit, afterN_goto, condS_true, condS_false, blockS_normal, blockS_ret, blockS_exit, blockS_goto, loopS_exit, loopS_ret, plainS_some, drawS_some, fpsOk, disj, unord, mem, range', dropTo, enumT, undef, wrap_i64_id, Value.cells, mkCells, ptrTo, scal, cellsAt, rdN, endS_ret, resultsA, Option.bind_some, tupV, finish, reach, reachN, dep, ptrL_eq, ptrL, renL_eq, renL, ptrV_bool, ptrV_int, ptrV_string, ptrV_nilFunc, ptrV_nilIface, ptrV_nilPtr, ptrV_ptr, ptrV_nilSl, ptrV_sl, ptrV_iface, ptrV_agg, ptrV_tuple, ptrV_func, renV_bool, renV_int, renV_string, renV_nilFunc, renV_nilIface, renV_nilPtr, renV_ptr, renV_nilSl, renV_sl, renV_iface, renV_agg, renV_tuple, renV_func, n47_1s, n47_3s, n47_4s, n47_2s, n47_0s, want_some q47_3g2, Try.f47, k36, h1, h3]
/-- what 'Cost' answers -/
def cres (w h : Int) : Int × Int := if (1 ≤ w ∧ w ≤ 8) ∧ (1 ≤ h ∧ h ≤ 8) then (tT w.toNat h.toNat, 0) else (0, 1)
end Go.Proofs.Ytgpcjdhlijompaa.ore
namespace Go.Proofs.Ytgpcjdhlijompaa.ore
open Go.GE
set_option linter.unusedVariables false
set_option linter.unusedSimpArgs false
set_option maxRecDepth 100000
theorem all54 : ∀ n W H, W + H ≤ n → 1 ≤ W → W ≤ 8 → 1 ≤ H → H ≤ 8 → P54 W H := by
  intro n
  induction n with
  | zero => intro W H h h1; omega
  | succ n ih =>
    intro W H h h1 h2 h3 h4
    exact c54 W H ⟨h1, h2⟩ ⟨h3, h4⟩ fun w h' a b c d e => ih w h' (by omega) a c b d
def S0 : Sz := fun _ _ => false
theorem DC0 : DC S0 := ⟨fun w h w' h' h1 => (by cases h1), fun w h h1 => (by cases h1)⟩
theorem za89 : zeroA Try.prog 89 = some (.agg (planL S0).toArray) := by kernel_rfl
theorem sc89 : (planL S0).all scal = false := by decide +kernel
theorem c48 (W H : Nat) (hW : 1 ≤ W ∧ W ≤ 8) (hH : 1 ≤ H ∧ H ≤ 8) : LL.run 48 [iv W, iv H] [] = some ⟨.pointer (some ⟨0, 0, none⟩), [planB (add S0 W H)], []⟩ := by
  have e := all54 16 W H (by omega) hW.1 hW.2 hH.1 hH.2 0 0 S0 DC0 (by decide) (by omega) (by decide) (by omega)
  have kc : callH LL 54 [bv 0 0 W H, .pointer (some ⟨1, 0, none⟩), .pointer (some ⟨2, 0, none⟩)] [planB S0, .cells [.pointer (some ⟨0, 0, none⟩)] 1 false true, .cells [.func (.func 54) #[] #[.pointer (some ⟨1, 0, none⟩), .pointer (some ⟨2, 0, none⟩)]] 1 false true] =
      some ⟨iv (tT W H), [planB (add S0 W H), .cells [.pointer (some ⟨0, 0, none⟩)] 1 false true, .cells [.func (.func 54) #[] #[.pointer (some ⟨1, 0, none⟩), .pointer (some ⟨2, 0, none⟩)]] 1 false true], [1, 0, 2], if hit S0 W H then [] else [0]⟩ := by
    have hm : ∀ k : Nat, 10 < k → reach [planB S0, .cells [.pointer (some ⟨0, 0, none⟩)] 1 false true, .cells [.func (.func 54) #[] #[.pointer (some ⟨1, 0, none⟩), .pointer (some ⟨2, 0, none⟩)]] 1 false true] 0 k [1, 2] [] = [1, 0, 2] := by
      intro k hk
      obtain ⟨k, rfl⟩ : ∃ j, k = j + 8 := ⟨k - 8, by omega⟩
      have e1 : ptrB (.cells [.pointer (some ⟨0, 0, none⟩)] 1 false true) = [0] := rfl
      have e2 : ptrB (.cells [.func (.func 54) #[] #[.pointer (some ⟨1, 0, none⟩), .pointer (some ⟨2, 0, none⟩)]] 1 false true) = [1, 2] := rfl
      simp [reach, mem, nblt, nbeq, e1, e2, ptrB_plan]
    have f1 : ([bv 0 0 W H, .pointer (some ⟨1, 0, none⟩), .pointer (some ⟨2, 0, none⟩)] : List Value).flatMap (ptrV dep) = [1, 2] := rfl
    have f2 : optAll (renV (idx [1, 0, 2]) dep) [bv 0 0 W H, .pointer (some ⟨1, 0, none⟩), .pointer (some ⟨2, 0, none⟩)] = some [bv 0 0 W H, p0, p2] := rfl
    have r1 : renB (idx [1, 0, 2]) (.cells [.pointer (some ⟨0, 0, none⟩)] 1 false true) = some aB := rfl
    have r2 : renB (idx [1, 0, 2]) (.cells [.func (.func 54) #[] #[.pointer (some ⟨1, 0, none⟩), .pointer (some ⟨2, 0, none⟩)]] 1 false true) = some fB := rfl
    unfold callH
    simp only [f1, hm reachN (by decide), f2]
    simp only [optAll, List.getElem?_cons_zero, List.getElem?_cons_succ, r1, r2, renB_plan, e]
    by_cases hh' : hit S0 W H
    · rw [add_hit DC0 hh']
      simp [hh', mergeB, renV_int, dep, optAll]
    · simp [hh', mergeB, renV_int, dep, optAll, renB_plan]
  refine go (by decide) ?_
  rw [run48 _ _ _ (by simp)]
  simp only [planB] at kc ⊢
  have hwr : (if hit S0 W H then ([] : List Nat) else [0]) = [] ∨ (if hit S0 W H then ([] : List Nat) else [0]) = [0] := by split <;> simp
  generalize (if hit S0 W H then ([] : List Nat) else [0]) = wr at *
  generalize tT W H = T at *
  rcases hwr with rfl | rfl <;>
  simp (disch := first | omega | decide | assumption | simp [scal]) [runOps_nil, runOps_cons, runOpsF_nil, runOpsF_cons, fstS_some, fstF_some, opStep_eq, want_none, oStep_true, oStep_false, fin_pure, fin_read, fin_alloc, fin_write, storeB, wrN, cellV, addWr, o_move, o_assign, o_pick, o_alloc, o_box, o_load, o_store, o_nilCheck, o_bin, o_un, o_extract, o_callV, o_callB, o_callI, callV_f, callV_y, callV_fc, o_makeFunc, partsA, Instr.fill, builtin_len, builtin_max2, bin_add, bin_sub, bin_mul, bin_quo, bin_rem, bin_lss, bin_leq, bin_gtr, bin_geq, bin_eql, bin_neq, un_neg, un_not, opd, opds, optAll, lk, putO, put, has, rep, nbeq, nblt, constOk, isC, ops, sub, cl, cr, co, bodyOf, thenS_normal, thenS_ret, thenS_exit, thenS_goto, afterN_normal, afterN_ret, afterN_exit, afterN_goto, condS_true, condS_false, blockS_normal, blockS_ret, blockS_exit, blockS_goto, loopS_exit, loopS_ret, plainS_some, drawS_some, fpsOk, disj, unord, mem, range', dropTo, enumT, undef, wrap_i64_id, Value.cells, mkCells, ptrTo, scal, cellsAt, rdN, endS_ret, resultsA, Option.bind_some, tupV, finish, reach, reachN, dep, ptrL_eq, ptrL, renL_eq, renL, ptrV_bool, ptrV_int, ptrV_string, ptrV_nilFunc, ptrV_nilIface, ptrV_nilPtr, ptrV_ptr, ptrV_nilSl, ptrV_sl, ptrV_iface, ptrV_agg, ptrV_tuple, ptrV_func, renV_bool, renV_int, renV_string, renV_nilFunc, renV_nilIface, renV_nilPtr, renV_ptr, renV_nilSl, renV_sl, renV_iface, renV_agg, renV_tuple, renV_func, za_90, sz_90, za_79, sz_79, loadA_eq ia_79, za_35, o_build za_35 pl_35, loadA_eq ia_90, n48_1s, n48_3s, n48_5s, n48_7s, n48_9s, n48_11s, n48_12s, n48_10s, n48_8s, n48_6s, n48_4s, n48_2s, n48_0s, Try.f48, za89, pl_89, o_build za89 pl_89, sc89, kc, optAll, ptrB_plan', renB_plan', idx]
end Go.Proofs.Ytgpcjdhlijompaa.ore
namespace Go.Proofs.Ytgpcjdhlijompaa.ore
open Go.GE
set_option linter.unusedVariables false
set_option linter.unusedSimpArgs false
set_option maxRecDepth 100000
theorem best_all2 : ((List.range 9).all fun W => (List.range 9).all fun H => W == 0 || H == 0 || (match tB W H with
    | some q => decide (1 ≤ q.2) && decide (q.2 < (if q.1 then W else H)) && decide (cst W H q = tT W H)
    | none => true)) = true := by decide +kernel
theorem best_q {W H : Nat} (hW : W < 9) (hH : H < 9) (h1 : 1 ≤ W) (h2 : 1 ≤ H) {q : Ln} (hq : tB W H = some q) : 1 ≤ q.2 ∧ q.2 < (if q.1 then W else H) ∧ cst W H q = tT W H := by
  have := List.all_eq_true.1 (List.all_eq_true.1 best_all2 W (List.mem_range.2 hW)) H (List.mem_range.2 hH)
  simp only [Bool.or_eq_true, beq_iff_eq, hq, Bool.and_eq_true, decide_eq_true_eq] at this
  rcases this with (h | h) | h
  · omega
  · omega
  · exact ⟨h.1.1, h.1.2, h.2⟩
end Go.Proofs.Ytgpcjdhlijompaa.ore
namespace Go.Proofs.Ytgpcjdhlijompaa.ore
open Go.GE
set_option linter.unusedVariables false
set_option linter.unusedSimpArgs false
set_option maxRecDepth 100000
theorem k48 (W H : Nat) (hW : 1 ≤ W ∧ W ≤ 8) (hH : 1 ≤ H ∧ H ≤ 8) (h : List Blk) : callH LL 48 [iv W, iv H] h = some ⟨.pointer (some ⟨h.length, 0, none⟩), h ++ [planB (add S0 W H)], [], []⟩ := by
  have e := c48 W H hW hH
  have hr : reach h 0 reachN [] [] = [] := rfl
  have hr2 := ren_plains (f := idx []) (vs := [iv W, iv H]) rfl
  unfold callH
  simp only [ptr_plains (vs := [iv W, iv H]) rfl, hr, hr2]
  simp only [optAll, e]
  simp [mergeB, renV_ptr, dep, nblt, renB_plan, optAll]
theorem add0 {W H : Nat} (hW : 1 ≤ W) (hH : 1 ≤ H) : add S0 W H W H = true ↔ ¬ (W = 1 ∧ H = 1) := by
  simp only [add, S0, Bool.false_or, decide_eq_true_eq]; omega
theorem planT {W H : Nat} (hW : 1 ≤ W ∧ W ≤ 8) (hH : 1 ≤ H ∧ H ≤ 8) : (planL (add S0 W H))[W * 9 + H]? = some (iv (tT W H)) := by
  rw [plan_T (by omega) (by omega)]
  by_cases h : W = 1 ∧ H = 1
  · obtain ⟨rfl, rfl⟩ := h
    have : add S0 1 1 1 1 = false := rfl
    rw [if_neg (by rw [this]; decide)]
    rfl
  · rw [if_pos ((add0 hW.1 hH.1).2 h)]
theorem planBest {W H : Nat} (hW : 1 ≤ W ∧ W ≤ 8) (hH : 1 ≤ H ∧ H ≤ 8) : (planL (add S0 W H))[81 + W * 9 + H]? = some (wv (tB W H)) := by
  rw [plan_B (by omega) (by omega)]
  by_cases h : W = 1 ∧ H = 1
  · obtain ⟨rfl, rfl⟩ := h
    rfl
  · rw [if_pos ((add0 hW.1 hH.1).2 h)]
theorem k24 (w h : Int) (hp : List Blk) : callH LL 24 [iv w, iv h] hp = some ⟨.tuple #[iv (cres w h).1, iv (cres w h).2], hp, [], []⟩ := by
  refine callH_plain (go (by decide) ?_) rfl rfl
  rw [run24 _ _ _ (by simp)]
  have k := k47 w h
  by_cases hv : (1 ≤ w ∧ w ≤ 8) ∧ (1 ≤ h ∧ h ≤ 8)
  · have er : cres w h = (tT w.toNat h.toNat, 0) := by unfold cres; rw [if_pos hv]
    rw [er]
    obtain ⟨h1, h2⟩ := hv
    obtain ⟨W, rfl⟩ : ∃ k : Nat, w = k := ⟨w.toNat, by omega⟩
    obtain ⟨H, rfl⟩ : ∃ k : Nat, h = k := ⟨h.toNat, by omega⟩
    have wi : (W : Int) < 9 := by omega
    have hi : (H : Int) < 9 := by omega
    have k8 := k48 W H (by omega) (by omega)
    have pT := planT (W := W) (H := H) (by omega) (by omega)
    simp only [planB] at k8
    simp only [Int.toNat_natCast]
    generalize planL (add S0 W H) = pl at *
    simp (disch := first | omega | decide | assumption | simp [scal]) [runOps_nil, runOps_cons, runOpsF_nil, runOpsF_cons, fstS_some, fstF_some, opStep_eq, want_none, oStep_true, oStep_false, fin_pure, fin_read, fin_alloc, fin_write, storeB, wrN, cellV, addWr, o_move, o_assign, o_pick, o_alloc, o_box, o_load, o_store, o_nilCheck, o_bin, o_un, o_extract, o_callV, o_callB, o_callI, callV_f, callV_y, callV_fc, o_makeFunc, partsA, Instr.fill, builtin_len, builtin_max2, bin_add, bin_sub, bin_mul, bin_quo, bin_rem, bin_lss, bin_leq, bin_gtr, bin_geq, bin_eql, bin_neq, un_neg, un_not, opd, opds, optAll, lk, putO, put, has, rep, nbeq, nblt, constOk, isC, ops, sub, cl, cr, co, bodyOf, thenS_normal, thenS_ret, thenS_exit, thenS_goto, afterN_normal, afterN_ret, afterN_exit, afterN_goto, condS_true, condS_false, blockS_normal, blockS_ret, blockS_exit, blockS_goto, loopS_exit, loopS_ret, plainS_some, drawS_some, fpsOk, disj, unord, mem, range', dropTo, enumT, undef, wrap_i64_id, Value.cells, mkCells, ptrTo, scal, cellsAt, rdN, endS_ret, resultsA, Option.bind_some, tupV, finish, reach, reachN, dep, ptrL_eq, ptrL, renL_eq, renL, ptrV_bool, ptrV_int, ptrV_string, ptrV_nilFunc, ptrV_nilIface, ptrV_nilPtr, ptrV_ptr, ptrV_nilSl, ptrV_sl, ptrV_iface, ptrV_agg, ptrV_tuple, ptrV_func, renV_bool, renV_int, renV_string, renV_nilFunc, renV_nilIface, renV_nilPtr, renV_ptr, renV_nilSl, renV_sl, renV_iface, renV_agg, renV_tuple, renV_func, o_fieldAddr fa_89_0 (by decide), o_indexAddrA ea_83, o_indexAddrA ea_82, loadA_eq ia_3, n24_1s, n24_4s, n24_7s, n24_8s, n24_6s, n24_9s, n24_5s, n24_3s, n24_11s, n24_12s, n24_10s, n24_2s, n24_0s, Try.f24, k, h1, h2, k8, pT, wi, hi]
  · have er : cres w h = (0, 1) := by unfold cres; rw [if_neg hv]
    rw [er]
    simp (disch := first | omega | decide | assumption | simp [scal]) [runOps_nil, runOps_cons, runOpsF_nil, runOpsF_cons, fstS_some, fstF_some, opStep_eq, want_none, oStep_true, oStep_false, fin_pure, fin_read, fin_alloc, fin_write, storeB, wrN, cellV, addWr, o_move, o_assign, o_pick, o_alloc, o_box, o_load, o_store, o_nilCheck, o_bin, o_un, o_extract, o_callV, o_callB, o_callI, callV_f, callV_y, callV_fc, o_makeFunc, partsA, Instr.fill, builtin_len, builtin_max2, bin_add, bin_sub, bin_mul, bin_quo, bin_rem, bin_lss, bin_leq, bin_gtr, bin_geq, bin_eql, bin_neq, un_neg, un_not, opd, opds, optAll, lk, putO, put, has, rep, nbeq, nblt, constOk, isC, ops, sub, cl, cr, co, bodyOf, thenS_normal, thenS_ret, thenS_exit, thenS_goto, afterN_normal, afterN_ret, afterN_exit, afterN_goto, condS_true, condS_false, blockS_normal, blockS_ret, blockS_exit, blockS_goto, loopS_exit, loopS_ret, plainS_some, drawS_some, fpsOk, disj, unord, mem, range', dropTo, enumT, undef, wrap_i64_id, Value.cells, mkCells, ptrTo, scal, cellsAt, rdN, endS_ret, resultsA, Option.bind_some, tupV, finish, reach, reachN, dep, ptrL_eq, ptrL, renL_eq, renL, ptrV_bool, ptrV_int, ptrV_string, ptrV_nilFunc, ptrV_nilIface, ptrV_nilPtr, ptrV_ptr, ptrV_nilSl, ptrV_sl, ptrV_iface, ptrV_agg, ptrV_tuple, ptrV_func, renV_bool, renV_int, renV_string, renV_nilFunc, renV_nilIface, renV_nilPtr, renV_ptr, renV_nilSl, renV_sl, renV_iface, renV_agg, renV_tuple, renV_func, o_fieldAddr fa_89_0 (by decide), o_indexAddrA ea_83, o_indexAddrA ea_82, loadA_eq ia_3, n24_1s, n24_4s, n24_7s, n24_8s, n24_6s, n24_9s, n24_5s, n24_3s, n24_11s, n24_12s, n24_10s, n24_2s, n24_0s, Try.f24, k, hv]
end Go.Proofs.Ytgpcjdhlijompaa.ore
namespace Go.Proofs.Ytgpcjdhlijompaa.ore
open Go.GE
set_option linter.unusedVariables false
set_option linter.unusedSimpArgs false
theorem turnS_mod (a b : Int) : ∃ k, turnS a b = b - a + 3600 * k := ⟨(a - b + 5400) / 3600 - 1, by unfold turnS; omega⟩
theorem turnS_anti {a b : Int} (h : turnS a b ≠ 1800) : turnS b a = -turnS a b := by unfold turnS at *; omega
theorem tel_b (g : Nat → Nat → Int) (X Y : Nat) : ∀ W, ∃ k, sumN (bA g X Y) W = g (X + W) Y - g X Y + 3600 * k := by
  intro W
  induction W with
  | zero => exact ⟨0, by simp [sumN]⟩
  | succ W ih =>
    obtain ⟨k, hk⟩ := ih
    obtain ⟨j, hj⟩ := turnS_mod (g (X + W) Y) (g (X + W + 1) Y)
    refine ⟨k + j, ?_⟩
    simp only [sumN, hk, bA, hj]
    rw [show X + (W + 1) = X + W + 1 by omega]
    omega
theorem tel_l (g : Nat → Nat → Int) (X Y : Nat) : ∀ H, ∃ k, sumN (lA g X Y) H = g X (Y + H) - g X Y + 3600 * k := by
  intro H
  induction H with
  | zero => exact ⟨0, by simp [sumN]⟩
  | succ H ih =>
    obtain ⟨k, hk⟩ := ih
    obtain ⟨j, hj⟩ := turnS_mod (g X (Y + H)) (g X (Y + H + 1))
    refine ⟨k + j, ?_⟩
    simp only [sumN, hk, lA, hj]
    rw [show Y + (H + 1) = Y + H + 1 by omega]
    omega
theorem tel_b' (g : Nat → Nat → Int) (X Y : Nat) : ∀ W, ∃ k, sumN (bB g X Y) W = g X Y - g (X + W) Y + 3600 * k := by
  intro W
  induction W with
  | zero => exact ⟨0, by simp [sumN]⟩
  | succ W ih =>
    obtain ⟨k, hk⟩ := ih
    obtain ⟨j, hj⟩ := turnS_mod (g (X + W + 1) Y) (g (X + W) Y)
    refine ⟨k + j, ?_⟩
    simp only [sumN, hk, bB, hj]
    rw [show X + (W + 1) = X + W + 1 by omega]
    omega
theorem tel_l' (g : Nat → Nat → Int) (X Y : Nat) : ∀ H, ∃ k, sumN (lB g X Y) H = g X Y - g X (Y + H) + 3600 * k := by
  intro H
  induction H with
  | zero => exact ⟨0, by simp [sumN]⟩
  | succ H ih =>
    obtain ⟨k, hk⟩ := ih
    obtain ⟨j, hj⟩ := turnS_mod (g X (Y + H + 1)) (g X (Y + H))
    refine ⟨k + j, ?_⟩
    simp only [sumN, hk, lB, hj]
    rw [show Y + (H + 1) = Y + H + 1 by omega]
    omega
theorem ringR_sum (g : Nat → Nat → Int) (X Y W H : Nat) : ringR g X Y W H = sumN (bA g X Y) W + sumN (bB g X (Y + H)) W + sumN (lA g (X + W) Y) H + sumN (lB g X Y) H := by
  unfold ringR
  rw [sum2_eq, sum2_eq]
  omega
theorem ring_mod (g : Nat → Nat → Int) (X Y W H : Nat) : ∃ k, ringR g X Y W H = 3600 * k := by
  obtain ⟨a, ha⟩ := tel_b g X Y W
  obtain ⟨b, hb⟩ := tel_b' g X (Y + H) W
  obtain ⟨c, hc⟩ := tel_l g (X + W) Y H
  obtain ⟨d, hd⟩ := tel_l' g X Y H
  exact ⟨a + b + c + d, by rw [ringR_sum, ha, hb, hc, hd]; omega⟩
theorem indx_spec (g : Nat → Nat → Int) (X Y W H : Nat) : ringR g X Y W H = 3600 * indx g X Y W H := by
  obtain ⟨k, hk⟩ := ring_mod g X Y W H
  unfold indx
  rw [hk, Int.mul_tdiv_cancel_left _ (by decide)]
/-- all turns between neighbours are less than half a turn -/
structure Sure (g : Nat → Nat → Int) (Wf HH : Nat) : Prop where
  right : ∀ x y, x + 1 < Wf → y < HH → turnS (g x y) (g (x + 1) y) ≠ 1800
  up : ∀ x y, x < Wf → y + 1 < HH → turnS (g x y) (g x (y + 1)) ≠ 1800
theorem sure_ne {o a b : Int} (ho : 0 ≤ o) (h : sureS o (turnS a b)) : turnS a b ≠ 1800 := by unfold sureS at h; omega
theorem Fld.sure {Wf HH : Nat} {o : Int} {off n : Nat} {cs : List Value} {nd : Nat → Int} (F : Fld Wf HH o off n cs nd) (hg : ∀ i, i < n → ¬ badAt Wf o nd i) : Sure (gr Wf nd) Wf HH := by
  have hw := F.hw
  constructor
  · intro x y hx hy
    have hi : y * Wf + (x + 1) < n := by
      have := Nat.mul_le_mul_right Wf (show y + 1 ≤ HH by omega)
      rw [Nat.add_mul, Nat.one_mul] at this
      rw [F.hn]; omega
    have h := hg _ hi
    simp only [badAt, badL, badU, not_or, not_and, Classical.not_not] at h
    rw [Nat.mul_add_mod_of_lt' hx] at h
    have := h.1 (by omega)
    rw [show y * Wf + (x + 1) - 1 = y * Wf + x by omega] at this
    rw [sure_comm] at this
    exact sure_ne F.ho.1 this
  · intro x y hx hy
    have hi : (y + 1) * Wf + x < n := by
      have := Nat.mul_le_mul_right Wf (show y + 1 + 1 ≤ HH by omega)
      rw [Nat.add_mul (y + 1), Nat.one_mul] at this
      rw [F.hn]; omega
    have h := hg _ hi
    simp only [badAt, badL, badU, not_or, not_and, Classical.not_not] at h
    rw [Nat.mul_add_div_of_lt' hx] at h
    have := h.2 (by omega)
    have e : (y + 1) * Wf + x - Wf = y * Wf + x := by rw [Nat.add_mul, Nat.one_mul]; omega
    rw [e, sure_comm] at this
    exact sure_ne F.ho.1 this
section
variable {g : Nat → Nat → Int} {Wf HH X Y W H n : Nat}
theorem ring_up (S : Sure g Wf HH) (hX : X + W + 1 ≤ Wf) (hY : Y + H + 1 ≤ HH) (hn : n ≤ W) : ringR g X Y W H = ringR g X Y n H + ringR g (X + n) Y (W - n) H := by
  obtain ⟨m, rfl⟩ : ∃ m, W = n + m := ⟨W - n, by omega⟩
  rw [ringR_sum, ringR_sum, ringR_sum, sumN_split, sumN_split, show n + m - n = m by omega]
  have e1 : sumN (fun i => bA g X Y (n + i)) m = sumN (bA g (X + n) Y) m := sumN_congr fun i _ => by unfold bA; rw [show X + (n + i) = X + n + i by omega]
  have e2 : sumN (fun i => bB g X (Y + H) (n + i)) m = sumN (bB g (X + n) (Y + H)) m := sumN_congr fun i _ => by unfold bB; rw [show X + (n + i) = X + n + i by omega]
  have e3 : sumN (lB g (X + n) Y) H = -sumN (lA g (X + n) Y) H := by
    rw [← sumN_neg]
    refine sumN_congr fun i hi => ?_
    unfold lA lB
    exact turnS_anti (S.up _ _ (by omega) (by omega))
  rw [e1, e2, e3, show X + (n + m) = X + n + m by omega]
  omega
theorem ring_lev (S : Sure g Wf HH) (hX : X + W + 1 ≤ Wf) (hY : Y + H + 1 ≤ HH) (hn : n ≤ H) : ringR g X Y W H = ringR g X Y W n + ringR g X (Y + n) W (H - n) := by
  obtain ⟨m, rfl⟩ : ∃ m, H = n + m := ⟨H - n, by omega⟩
  rw [ringR_sum, ringR_sum, ringR_sum, sumN_split (lA g (X + W) Y), sumN_split (lB g X Y), show n + m - n = m by omega]
  have e1 : sumN (fun i => lA g (X + W) Y (n + i)) m = sumN (lA g (X + W) (Y + n)) m := sumN_congr fun i _ => by unfold lA; rw [show Y + (n + i) = Y + n + i by omega]
  have e2 : sumN (fun i => lB g X Y (n + i)) m = sumN (lB g X (Y + n)) m := sumN_congr fun i _ => by unfold lB; rw [show Y + (n + i) = Y + n + i by omega]
  have e3 : sumN (bB g X (Y + n)) W = -sumN (bA g X (Y + n)) W := by
    rw [← sumN_neg]
    refine sumN_congr fun i hi => ?_
    unfold bA bB
    exact turnS_anti (S.right _ _ (by omega) (by omega))
  rw [e1, e2, e3, show Y + (n + m) = Y + n + m by omega]
  omega
theorem indx_up (S : Sure g Wf HH) (hX : X + W + 1 ≤ Wf) (hY : Y + H + 1 ≤ HH) (hn : n ≤ W) : indx g X Y W H = indx g X Y n H + indx g (X + n) Y (W - n) H := by
  have := ring_up S hX hY hn
  rw [indx_spec, indx_spec, indx_spec] at this
  omega
theorem indx_lev (S : Sure g Wf HH) (hX : X + W + 1 ≤ Wf) (hY : Y + H + 1 ≤ HH) (hn : n ≤ H) : indx g X Y W H = indx g X Y W n + indx g X (Y + n) W (H - n) := by
  have := ring_lev S hX hY hn
  rw [indx_spec, indx_spec, indx_spec] at this
  omega
end
end Go.Proofs.Ytgpcjdhlijompaa.ore
namespace Go.Proofs.Ytgpcjdhlijompaa.ore
open Go.GE
set_option linter.unusedVariables false
set_option linter.unusedSimpArgs false
set_option maxRecDepth 100000
theorem fl29 : findLabel n29_3 0 = some (.seq .skip n29_24) := by kernel_rfl
theorem ks29 : (ue (.seq .skip n29_24)).1 ++ ((Try.prog.funcs[29]?).map fun f => f.results.toList.map resT).getD [] = [8, 3, 5, 4, 2, 4, 5, 6] := by kernel_rfl
section
variable (Wf HH : Nat) (o : Int) (off n c : Nat) (cs : List Value) (own : Bool) (nd : Nat → Int) (S : Sz)
def s29 (r : Int) : Tm := [(8, .pointer (some ⟨1, 0, none⟩)), (6, iv 0), (5, iv r), (4, .pointer (some ⟨2, 0, none⟩)), (3, .pointer (some ⟨3, 0, none⟩)), (2, .pointer (some ⟨4, 0, none⟩))]
def h29 (x y w h : Int) : List Blk := [.cells cs 1 true own, planB S, .cells [iv 0, iv 0, iv 0, iv 0] 1 true true, bb x y w h, fb Wf HH o 0 off n c]
theorem sw29 (x y w h r : Int) (b5 b6 : Blk) : sweep 1 ⟨s29 r, h29 Wf HH o off n c cs own S x y w h ++ [b5, b6], []⟩ = some ⟨s29 r, h29 Wf HH o off n c cs own S x y w h, []⟩ := by
  simp only [s29, h29, bb, fb]
  simp (disch := first | omega | decide | assumption | simp [scal]) [runOps_nil, runOps_cons, runOpsF_nil, runOpsF_cons, fstS_some, fstF_some, opStep_eq, want_none, oStep_true, oStep_false, fin_pure, fin_read, fin_alloc, fin_write, storeB, wrN, cellV, addWr, o_move, o_assign, o_pick, o_alloc, o_box, o_load, o_store, o_nilCheck, o_bin, o_un, o_extract, o_callV, o_callB, o_callI, callV_f, callV_y, callV_fc, o_makeFunc, partsA, Instr.fill, builtin_len, builtin_max2, bin_add, bin_sub, bin_mul, bin_quo, bin_rem, bin_lss, bin_leq, bin_gtr, bin_geq, bin_eql, bin_neq, un_neg, un_not, opd, opds, optAll, lk, putO, put, has, rep, nbeq, nblt, constOk, isC, ops, sub, cl, cr, co, bodyOf, thenS_normal, thenS_ret, thenS_exit, thenS_goto, afterN_normal, afterN_ret, afterN_exit, afterN_goto, condS_true, condS_false, blockS_normal, blockS_ret, blockS_exit, blockS_goto, loopS_exit, loopS_ret, plainS_some, drawS_some, fpsOk, disj, unord, mem, range', dropTo, enumT, undef, wrap_i64_id, Value.cells, mkCells, ptrTo, scal, cellsAt, rdN, endS_ret, resultsA, Option.bind_some, tupV, finish, reach, reachN, dep, ptrL_eq, ptrL, renL_eq, renL, ptrV_bool, ptrV_int, ptrV_string, ptrV_nilFunc, ptrV_nilIface, ptrV_nilPtr, ptrV_ptr, ptrV_nilSl, ptrV_sl, ptrV_iface, ptrV_agg, ptrV_tuple, ptrV_func, renV_bool, renV_int, renV_string, renV_nilFunc, renV_nilIface, renV_nilPtr, renV_ptr, renV_nilSl, renV_sl, renV_iface, renV_agg, renV_tuple, renV_func, loadA_eq ia_59, za_24, sz_24, loadA_eq ia_24, loadA_eq ia_60, za_35, sz_35, loadA_eq ia_35, o_fieldAddr fa_35_2 (by decide), loadA_eq ia_3, o_fieldAddr fa_35_3 (by decide), o_fieldAddr fa_35_0 (by decide), o_fieldAddr fa_35_1 (by decide), o_fieldAddr fa_24_0 (by decide), o_fieldAddr fa_24_1 (by decide), o_fieldAddr fa_24_2 (by decide), o_fieldAddr fa_24_3 (by decide), loadA_eq ia_22, lenA_sl lk_22, o_indexAddrS es_22, o_fieldAddr fa_89_0 (by decide), o_indexAddrA ea_83, o_indexAddrA ea_82, o_build za_35 pl_35, o_fieldAddr fa_89_1 (by decide), o_indexAddrA ea_87, o_indexAddrA ea_86, loadA_eq ia_85, o_fieldAddr fa_59_0 (by decide), loadA_eq ia_5, o_convI cv_5_3, o_fieldAddr fa_59_1 (by decide), o_fieldAddr fa_59_2 (by decide), o_build za_24 pl_24, o_fieldAddr fa_59_3 (by decide), loadA_eq ia_57, lenA_sl lk_57, o_indexAddrS es_57, ze_22, o_buildSlice es_22 ze_22 (by decide) ba_22_1, ap_22, builtin_append ni_22, sz_22, o_indexAddrA ea_60, za_3, sz_3, za_89, o_build za_89 pl_89, za_90, sz_90, za_79, sz_79, loadA_eq ia_79, loadA_eq ia_90, lenA_sl lk_101, o_indexAddrS es_101, sz_85, o_mkI ii_93, ze_101, o_buildSlice es_101 ze_101 (by decide) ba_101_1, ap_101, builtin_append ni_101, o_mkI ii_94, za_103, o_build za_103 pl_103, o_indexAddrS es_104, ze_104, o_buildSlice es_104 ze_104 (by decide) ba_104_4, lenA_sl lk_104, loadA_eq ia_103, sz_103, o_fieldAddr fa_103_2 (by decide), o_fieldAddr fa_103_0 (by decide), o_fieldAddr fa_103_1 (by decide), sweep, ptrT, renT, optAll, renB_flat, renB_non, ptrB_flat, ptrB_non, idx, ptrB_plan, renB_plan]
/-- a pass that cuts -/
theorem pass29 (F : Fld Wf HH o off n cs nd) {x y w h : Nat} (hw : 1 ≤ w ∧ w ≤ 8) (hh : 1 ≤ h ∧ h ≤ 8) (hx : x + w + 1 ≤ Wf) (hy : y + h + 1 ≤ HH) (q : Ln) (hB : (planL S)[81 + w * 9 + h]? = some (lv q)) (hq : if q.1 then 1 ≤ q.2 ∧ q.2 < w else 1 ≤ q.2 ∧ q.2 < h) (r : Int) (hr : -1000 ≤ r ∧ r ≤ 1000) :
    ∃ σ' b5 b6, keepT [8, 3, 5, 4, 2, 4, 5, 6] σ' = s29 (r + ndl w h q) ∧ codeB Try.prog LL ⟨29, 63, 1, none⟩ n29_24 ⟨s29 r, h29 Wf HH o off n c cs own S x y w h, []⟩ =
      some (.goto 0, ⟨σ', (if indx (gr Wf nd) x y (one w h q).1 (one w h q).2 = 0 then (if q.1 then h29 Wf HH o off n c cs own S (x + q.2) y (w - q.2 : Nat) h else h29 Wf HH o off n c cs own S x (y + q.2) w (h - q.2 : Nat)) else h29 Wf HH o off n c cs own S x y (one w h q).1 (one w h q).2) ++ [b5, b6], []⟩) := by
  have hwf := F.hw; have hhf := F.hh
  obtain ⟨tag, m⟩ := q
  have wi : (w : Int) < 9 := by omega
  have hi : (h : Int) < 9 := by omega
  cases tag with
  | true =>
    simp only [if_true] at hq
    obtain ⟨m1, m2⟩ := hq
    have eW : (w : Int) - m = ((w - m : Nat) : Int) := by omega
    have kp := fun hp => k73 m x y w h hp (by unfold small; omega) (by unfold small; omega) (by unfold small; omega)
    rw [eW] at kp
    have kn := fun hp => k72 m x y w h hp (by unfold small; omega)
    have ki := fun rest : List Blk => k44 (own := own) c 0 (h := .cells cs 1 true own :: rest) F rfl (X := x) (Y := y) (W := m) (H := h) (by omega) (by omega) (by omega) (by omega)
    simp only [one, ndl, if_true]
    simp only [lv_t] at hB
    by_cases h0 : indx (gr Wf nd) x y m h = 0
    · rw [h0] at ki
      simp only [h0, if_true]
      simp only [s29, h29, planB]
      refine ⟨_, _, _, ?_, by
        simp (disch := first | omega | decide | assumption | simp [scal]) [runOps_nil, runOps_cons, runOpsF_nil, runOpsF_cons, fstS_some, fstF_some, opStep_eq, want_none, oStep_true, oStep_false, fin_pure, fin_read, fin_alloc, fin_write, storeB, wrN, cellV, addWr, o_move, o_assign, o_pick, o_alloc, o_box, o_load, o_store, o_nilCheck, o_bin, o_un, o_extract, o_callV, o_callB, o_callI, callV_f, callV_y, callV_fc, o_makeFunc, partsA, Instr.fill, builtin_len, builtin_max2, bin_add, bin_sub, bin_mul, bin_quo, bin_rem, bin_lss, bin_leq, bin_gtr, bin_geq, bin_eql, bin_neq, un_neg, un_not, opd, opds, optAll, lk, putO, put, has, rep, nbeq, nblt, constOk, isC, ops, sub, cl, cr, co, bodyOf, thenS_normal, thenS_ret, thenS_exit, thenS_goto, afterN_normal, afterN_ret, afterN_exit, afterN_goto, condS_true, condS_false, blockS_normal, blockS_ret, blockS_exit, blockS_goto, loopS_exit, loopS_ret, plainS_some, drawS_some, fpsOk, disj, unord, mem, range', dropTo, enumT, undef, wrap_i64_id, Value.cells, mkCells, ptrTo, scal, cellsAt, rdN, endS_ret, resultsA, Option.bind_some, tupV, finish, reach, reachN, dep, ptrL_eq, ptrL, renL_eq, renL, ptrV_bool, ptrV_int, ptrV_string, ptrV_nilFunc, ptrV_nilIface, ptrV_nilPtr, ptrV_ptr, ptrV_nilSl, ptrV_sl, ptrV_iface, ptrV_agg, ptrV_tuple, ptrV_func, renV_bool, renV_int, renV_string, renV_nilFunc, renV_nilIface, renV_nilPtr, renV_ptr, renV_nilSl, renV_sl, renV_iface, renV_agg, renV_tuple, renV_func, za_35, loadA_eq ia_24, loadA_eq ia_35, o_build za_35 pl_35, sz_35, o_fieldAddr fa_35_2 (by decide), loadA_eq ia_3, o_fieldAddr fa_35_3 (by decide), o_fieldAddr fa_89_1 (by decide), o_indexAddrA ea_87, o_indexAddrA ea_86, loadA_eq ia_85, n29_1s, n29_4s, n29_8s, n29_11s, n29_12s, n29_10s, n29_14s, n29_17s, n29_18s, n29_16s, n29_19s, n29_15s, n29_13s, n29_9s, n29_7s, n29_6s, n29_21s, n29_23s, n29_25s, n29_28s, n29_31s, n29_32s, n29_30s, n29_33s, n29_29s, n29_27s, n29_35s, n29_37s, n29_39s, n29_42s, n29_44s, n29_45s, n29_43s, n29_41s, n29_46s, n29_40s, n29_38s, n29_36s, n29_34s, n29_26s, n29_24s, n29_22s, n29_20s, n29_5s, n29_3s, n29_0s, Try.f29, hB, wi, hi, m93n, m93p, m94n, m94p, kp, kn, ki, eqlI1, h0]
        exact ⟨rfl, rfl, rfl⟩⟩
      simp [keepT, mem, nbeq]
    · simp only [h0, if_false]
      generalize indx (gr Wf nd) x y m h = i0 at *
      simp only [s29, h29, planB]
      refine ⟨_, _, _, ?_, by
        simp (disch := first | omega | decide | assumption | simp [scal]) [runOps_nil, runOps_cons, runOpsF_nil, runOpsF_cons, fstS_some, fstF_some, opStep_eq, want_none, oStep_true, oStep_false, fin_pure, fin_read, fin_alloc, fin_write, storeB, wrN, cellV, addWr, o_move, o_assign, o_pick, o_alloc, o_box, o_load, o_store, o_nilCheck, o_bin, o_un, o_extract, o_callV, o_callB, o_callI, callV_f, callV_y, callV_fc, o_makeFunc, partsA, Instr.fill, builtin_len, builtin_max2, bin_add, bin_sub, bin_mul, bin_quo, bin_rem, bin_lss, bin_leq, bin_gtr, bin_geq, bin_eql, bin_neq, un_neg, un_not, opd, opds, optAll, lk, putO, put, has, rep, nbeq, nblt, constOk, isC, ops, sub, cl, cr, co, bodyOf, thenS_normal, thenS_ret, thenS_exit, thenS_goto, afterN_normal, afterN_ret, afterN_exit, afterN_goto, condS_true, condS_false, blockS_normal, blockS_ret, blockS_exit, blockS_goto, loopS_exit, loopS_ret, plainS_some, drawS_some, fpsOk, disj, unord, mem, range', dropTo, enumT, undef, wrap_i64_id, Value.cells, mkCells, ptrTo, scal, cellsAt, rdN, endS_ret, resultsA, Option.bind_some, tupV, finish, reach, reachN, dep, ptrL_eq, ptrL, renL_eq, renL, ptrV_bool, ptrV_int, ptrV_string, ptrV_nilFunc, ptrV_nilIface, ptrV_nilPtr, ptrV_ptr, ptrV_nilSl, ptrV_sl, ptrV_iface, ptrV_agg, ptrV_tuple, ptrV_func, renV_bool, renV_int, renV_string, renV_nilFunc, renV_nilIface, renV_nilPtr, renV_ptr, renV_nilSl, renV_sl, renV_iface, renV_agg, renV_tuple, renV_func, za_35, loadA_eq ia_24, loadA_eq ia_35, o_build za_35 pl_35, sz_35, o_fieldAddr fa_35_2 (by decide), loadA_eq ia_3, o_fieldAddr fa_35_3 (by decide), o_fieldAddr fa_89_1 (by decide), o_indexAddrA ea_87, o_indexAddrA ea_86, loadA_eq ia_85, n29_1s, n29_4s, n29_8s, n29_11s, n29_12s, n29_10s, n29_14s, n29_17s, n29_18s, n29_16s, n29_19s, n29_15s, n29_13s, n29_9s, n29_7s, n29_6s, n29_21s, n29_23s, n29_25s, n29_28s, n29_31s, n29_32s, n29_30s, n29_33s, n29_29s, n29_27s, n29_35s, n29_37s, n29_39s, n29_42s, n29_44s, n29_45s, n29_43s, n29_41s, n29_46s, n29_40s, n29_38s, n29_36s, n29_34s, n29_26s, n29_24s, n29_22s, n29_20s, n29_5s, n29_3s, n29_0s, Try.f29, hB, wi, hi, m93n, m93p, m94n, m94p, kp, kn, ki, eqlI1, h0]
        exact ⟨rfl, rfl, rfl⟩⟩
      simp [keepT, mem, nbeq]
  | false =>
    simp only [Bool.false_eq_true, if_false] at hq
    obtain ⟨m1, m2⟩ := hq
    have eW : (h : Int) - m = ((h - m : Nat) : Int) := by omega
    have kp := fun hp => k75 m x y w h hp (by unfold small; omega) (by unfold small; omega) (by unfold small; omega)
    rw [eW] at kp
    have kn := fun hp => k74 m x y w h hp (by unfold small; omega)
    have ki := fun rest : List Blk => k44 (own := own) c 0 (h := .cells cs 1 true own :: rest) F rfl (X := x) (Y := y) (W := w) (H := m) (by omega) (by omega) (by omega) (by omega)
    simp only [one, ndl, Bool.false_eq_true, if_false]
    simp only [lv_f] at hB
    by_cases h0 : indx (gr Wf nd) x y w m = 0
    · rw [h0] at ki
      simp only [h0, if_true]
      simp only [s29, h29, planB]
      refine ⟨_, _, _, ?_, by
        simp (disch := first | omega | decide | assumption | simp [scal]) [runOps_nil, runOps_cons, runOpsF_nil, runOpsF_cons, fstS_some, fstF_some, opStep_eq, want_none, oStep_true, oStep_false, fin_pure, fin_read, fin_alloc, fin_write, storeB, wrN, cellV, addWr, o_move, o_assign, o_pick, o_alloc, o_box, o_load, o_store, o_nilCheck, o_bin, o_un, o_extract, o_callV, o_callB, o_callI, callV_f, callV_y, callV_fc, o_makeFunc, partsA, Instr.fill, builtin_len, builtin_max2, bin_add, bin_sub, bin_mul, bin_quo, bin_rem, bin_lss, bin_leq, bin_gtr, bin_geq, bin_eql, bin_neq, un_neg, un_not, opd, opds, optAll, lk, putO, put, has, rep, nbeq, nblt, constOk, isC, ops, sub, cl, cr, co, bodyOf, thenS_normal, thenS_ret, thenS_exit, thenS_goto, afterN_normal, afterN_ret, afterN_exit, afterN_goto, condS_true, condS_false, blockS_normal, blockS_ret, blockS_exit, blockS_goto, loopS_exit, loopS_ret, plainS_some, drawS_some, fpsOk, disj, unord, mem, range', dropTo, enumT, undef, wrap_i64_id, Value.cells, mkCells, ptrTo, scal, cellsAt, rdN, endS_ret, resultsA, Option.bind_some, tupV, finish, reach, reachN, dep, ptrL_eq, ptrL, renL_eq, renL, ptrV_bool, ptrV_int, ptrV_string, ptrV_nilFunc, ptrV_nilIface, ptrV_nilPtr, ptrV_ptr, ptrV_nilSl, ptrV_sl, ptrV_iface, ptrV_agg, ptrV_tuple, ptrV_func, renV_bool, renV_int, renV_string, renV_nilFunc, renV_nilIface, renV_nilPtr, renV_ptr, renV_nilSl, renV_sl, renV_iface, renV_agg, renV_tuple, renV_func, za_35, loadA_eq ia_24, loadA_eq ia_35, o_build za_35 pl_35, sz_35, o_fieldAddr fa_35_2 (by decide), loadA_eq ia_3, o_fieldAddr fa_35_3 (by decide), o_fieldAddr fa_89_1 (by decide), o_indexAddrA ea_87, o_indexAddrA ea_86, loadA_eq ia_85, n29_1s, n29_4s, n29_8s, n29_11s, n29_12s, n29_10s, n29_14s, n29_17s, n29_18s, n29_16s, n29_19s, n29_15s, n29_13s, n29_9s, n29_7s, n29_6s, n29_21s, n29_23s, n29_25s, n29_28s, n29_31s, n29_32s, n29_30s, n29_33s, n29_29s, n29_27s, n29_35s, n29_37s, n29_39s, n29_42s, n29_44s, n29_45s, n29_43s, n29_41s, n29_46s, n29_40s, n29_38s, n29_36s, n29_34s, n29_26s, n29_24s, n29_22s, n29_20s, n29_5s, n29_3s, n29_0s, Try.f29, hB, wi, hi, m93n, m93p, m94n, m94p, kp, kn, ki, eqlI1, h0]
        exact ⟨rfl, rfl, rfl⟩⟩
      simp [keepT, mem, nbeq]
    · simp only [h0, if_false]
      generalize indx (gr Wf nd) x y w m = i0 at *
      simp only [s29, h29, planB]
      refine ⟨_, _, _, ?_, by
        simp (disch := first | omega | decide | assumption | simp [scal]) [runOps_nil, runOps_cons, runOpsF_nil, runOpsF_cons, fstS_some, fstF_some, opStep_eq, want_none, oStep_true, oStep_false, fin_pure, fin_read, fin_alloc, fin_write, storeB, wrN, cellV, addWr, o_move, o_assign, o_pick, o_alloc, o_box, o_load, o_store, o_nilCheck, o_bin, o_un, o_extract, o_callV, o_callB, o_callI, callV_f, callV_y, callV_fc, o_makeFunc, partsA, Instr.fill, builtin_len, builtin_max2, bin_add, bin_sub, bin_mul, bin_quo, bin_rem, bin_lss, bin_leq, bin_gtr, bin_geq, bin_eql, bin_neq, un_neg, un_not, opd, opds, optAll, lk, putO, put, has, rep, nbeq, nblt, constOk, isC, ops, sub, cl, cr, co, bodyOf, thenS_normal, thenS_ret, thenS_exit, thenS_goto, afterN_normal, afterN_ret, afterN_exit, afterN_goto, condS_true, condS_false, blockS_normal, blockS_ret, blockS_exit, blockS_goto, loopS_exit, loopS_ret, plainS_some, drawS_some, fpsOk, disj, unord, mem, range', dropTo, enumT, undef, wrap_i64_id, Value.cells, mkCells, ptrTo, scal, cellsAt, rdN, endS_ret, resultsA, Option.bind_some, tupV, finish, reach, reachN, dep, ptrL_eq, ptrL, renL_eq, renL, ptrV_bool, ptrV_int, ptrV_string, ptrV_nilFunc, ptrV_nilIface, ptrV_nilPtr, ptrV_ptr, ptrV_nilSl, ptrV_sl, ptrV_iface, ptrV_agg, ptrV_tuple, ptrV_func, renV_bool, renV_int, renV_string, renV_nilFunc, renV_nilIface, renV_nilPtr, renV_ptr, renV_nilSl, renV_sl, renV_iface, renV_agg, renV_tuple, renV_func, za_35, loadA_eq ia_24, loadA_eq ia_35, o_build za_35 pl_35, sz_35, o_fieldAddr fa_35_2 (by decide), loadA_eq ia_3, o_fieldAddr fa_35_3 (by decide), o_fieldAddr fa_89_1 (by decide), o_indexAddrA ea_87, o_indexAddrA ea_86, loadA_eq ia_85, n29_1s, n29_4s, n29_8s, n29_11s, n29_12s, n29_10s, n29_14s, n29_17s, n29_18s, n29_16s, n29_19s, n29_15s, n29_13s, n29_9s, n29_7s, n29_6s, n29_21s, n29_23s, n29_25s, n29_28s, n29_31s, n29_32s, n29_30s, n29_33s, n29_29s, n29_27s, n29_35s, n29_37s, n29_39s, n29_42s, n29_44s, n29_45s, n29_43s, n29_41s, n29_46s, n29_40s, n29_38s, n29_36s, n29_34s, n29_26s, n29_24s, n29_22s, n29_20s, n29_5s, n29_3s, n29_0s, Try.f29, hB, wi, hi, m93n, m93p, m94n, m94p, kp, kn, ki, eqlI1, h0]
        exact ⟨rfl, rfl, rfl⟩⟩
      simp [keepT, mem, nbeq]
/-- a pass that ends -/
theorem last29 {x y w h : Nat} (hw : w < 9) (hh : h < 9) (hB : (planL S)[81 + w * 9 + h]? = some .nilIface) (r : Int) :
    ∃ st', codeB Try.prog LL ⟨29, 63, 1, none⟩ n29_24 ⟨s29 r, h29 Wf HH o off n c cs own S x y w h, []⟩ = some (.ret, st') ∧ endS Try.prog [.cell 4 35, .tmp 5, .tmp 6] 1 (some (.ret, st')) = some ⟨.tuple #[bv x y w h, iv r, iv 0], [], []⟩ := by
  have wi : (w : Int) < 9 := by omega
  have hi : (h : Int) < 9 := by omega
  simp only [s29, h29, planB]
  refine ⟨_, by
    simp (disch := first | omega | decide | assumption | simp [scal]) [runOps_nil, runOps_cons, runOpsF_nil, runOpsF_cons, fstS_some, fstF_some, opStep_eq, want_none, oStep_true, oStep_false, fin_pure, fin_read, fin_alloc, fin_write, storeB, wrN, cellV, addWr, o_move, o_assign, o_pick, o_alloc, o_box, o_load, o_store, o_nilCheck, o_bin, o_un, o_extract, o_callV, o_callB, o_callI, callV_f, callV_y, callV_fc, o_makeFunc, partsA, Instr.fill, builtin_len, builtin_max2, bin_add, bin_sub, bin_mul, bin_quo, bin_rem, bin_lss, bin_leq, bin_gtr, bin_geq, bin_eql, bin_neq, un_neg, un_not, opd, opds, optAll, lk, putO, put, has, rep, nbeq, nblt, constOk, isC, ops, sub, cl, cr, co, bodyOf, thenS_normal, thenS_ret, thenS_exit, thenS_goto, afterN_normal, afterN_ret, afterN_exit, afterN_goto, condS_true, condS_false, blockS_normal, blockS_ret, blockS_exit, blockS_goto, loopS_exit, loopS_ret, plainS_some, drawS_some, fpsOk, disj, unord, mem, range', dropTo, enumT, undef, wrap_i64_id, Value.cells, mkCells, ptrTo, scal, cellsAt, rdN, endS_ret, resultsA, Option.bind_some, tupV, finish, reach, reachN, dep, ptrL_eq, ptrL, renL_eq, renL, ptrV_bool, ptrV_int, ptrV_string, ptrV_nilFunc, ptrV_nilIface, ptrV_nilPtr, ptrV_ptr, ptrV_nilSl, ptrV_sl, ptrV_iface, ptrV_agg, ptrV_tuple, ptrV_func, renV_bool, renV_int, renV_string, renV_nilFunc, renV_nilIface, renV_nilPtr, renV_ptr, renV_nilSl, renV_sl, renV_iface, renV_agg, renV_tuple, renV_func, za_35, loadA_eq ia_24, loadA_eq ia_35, o_build za_35 pl_35, sz_35, o_fieldAddr fa_35_2 (by decide), loadA_eq ia_3, o_fieldAddr fa_35_3 (by decide), o_fieldAddr fa_89_1 (by decide), o_indexAddrA ea_87, o_indexAddrA ea_86, loadA_eq ia_85, n29_1s, n29_4s, n29_8s, n29_11s, n29_12s, n29_10s, n29_14s, n29_17s, n29_18s, n29_16s, n29_19s, n29_15s, n29_13s, n29_9s, n29_7s, n29_6s, n29_21s, n29_23s, n29_25s, n29_28s, n29_31s, n29_32s, n29_30s, n29_33s, n29_29s, n29_27s, n29_35s, n29_37s, n29_39s, n29_42s, n29_44s, n29_45s, n29_43s, n29_41s, n29_46s, n29_40s, n29_38s, n29_36s, n29_34s, n29_26s, n29_24s, n29_22s, n29_20s, n29_5s, n29_3s, n29_0s, Try.f29, hB, wi, hi, eqlI0]
    rfl, ?_⟩
  simp (disch := first | omega | decide | assumption | simp [scal]) [runOps_nil, runOps_cons, runOpsF_nil, runOpsF_cons, fstS_some, fstF_some, opStep_eq, want_none, oStep_true, oStep_false, fin_pure, fin_read, fin_alloc, fin_write, storeB, wrN, cellV, addWr, o_move, o_assign, o_pick, o_alloc, o_box, o_load, o_store, o_nilCheck, o_bin, o_un, o_extract, o_callV, o_callB, o_callI, callV_f, callV_y, callV_fc, o_makeFunc, partsA, Instr.fill, builtin_len, builtin_max2, bin_add, bin_sub, bin_mul, bin_quo, bin_rem, bin_lss, bin_leq, bin_gtr, bin_geq, bin_eql, bin_neq, un_neg, un_not, opd, opds, optAll, lk, putO, put, has, rep, nbeq, nblt, constOk, isC, ops, sub, cl, cr, co, bodyOf, thenS_normal, thenS_ret, thenS_exit, thenS_goto, afterN_normal, afterN_ret, afterN_exit, afterN_goto, condS_true, condS_false, blockS_normal, blockS_ret, blockS_exit, blockS_goto, loopS_exit, loopS_ret, plainS_some, drawS_some, fpsOk, disj, unord, mem, range', dropTo, enumT, undef, wrap_i64_id, Value.cells, mkCells, ptrTo, scal, cellsAt, rdN, endS_ret, resultsA, Option.bind_some, tupV, finish, reach, reachN, dep, ptrL_eq, ptrL, renL_eq, renL, ptrV_bool, ptrV_int, ptrV_string, ptrV_nilFunc, ptrV_nilIface, ptrV_nilPtr, ptrV_ptr, ptrV_nilSl, ptrV_sl, ptrV_iface, ptrV_agg, ptrV_tuple, ptrV_func, renV_bool, renV_int, renV_string, renV_nilFunc, renV_nilIface, renV_nilPtr, renV_ptr, renV_nilSl, renV_sl, renV_iface, renV_agg, renV_tuple, renV_func, loadA_eq ia_59, za_24, sz_24, loadA_eq ia_24, loadA_eq ia_60, za_35, sz_35, loadA_eq ia_35, o_fieldAddr fa_35_2 (by decide), loadA_eq ia_3, o_fieldAddr fa_35_3 (by decide), o_fieldAddr fa_35_0 (by decide), o_fieldAddr fa_35_1 (by decide), o_fieldAddr fa_24_0 (by decide), o_fieldAddr fa_24_1 (by decide), o_fieldAddr fa_24_2 (by decide), o_fieldAddr fa_24_3 (by decide), loadA_eq ia_22, lenA_sl lk_22, o_indexAddrS es_22, o_fieldAddr fa_89_0 (by decide), o_indexAddrA ea_83, o_indexAddrA ea_82, o_build za_35 pl_35, o_fieldAddr fa_89_1 (by decide), o_indexAddrA ea_87, o_indexAddrA ea_86, loadA_eq ia_85, o_fieldAddr fa_59_0 (by decide), loadA_eq ia_5, o_convI cv_5_3, o_fieldAddr fa_59_1 (by decide), o_fieldAddr fa_59_2 (by decide), o_build za_24 pl_24, o_fieldAddr fa_59_3 (by decide), loadA_eq ia_57, lenA_sl lk_57, o_indexAddrS es_57, ze_22, o_buildSlice es_22 ze_22 (by decide) ba_22_1, ap_22, builtin_append ni_22, sz_22, o_indexAddrA ea_60, za_3, sz_3, za_89, o_build za_89 pl_89, za_90, sz_90, za_79, sz_79, loadA_eq ia_79, loadA_eq ia_90, lenA_sl lk_101, o_indexAddrS es_101, sz_85, o_mkI ii_93, ze_101, o_buildSlice es_101 ze_101 (by decide) ba_101_1, ap_101, builtin_append ni_101, o_mkI ii_94, za_103, o_build za_103 pl_103, o_indexAddrS es_104, ze_104, o_buildSlice es_104 ze_104 (by decide) ba_104_4, lenA_sl lk_104, loadA_eq ia_103, sz_103, o_fieldAddr fa_103_2 (by decide), o_fieldAddr fa_103_0 (by decide), o_fieldAddr fa_103_1 (by decide), optAll]
end
end Go.Proofs.Ytgpcjdhlijompaa.ore
namespace Go.Proofs.Ytgpcjdhlijompaa.ore
open Go.GE
set_option linter.unusedVariables false
set_option linter.unusedSimpArgs false
set_option maxRecDepth 100000
section
variable (Wf HH : Nat) (o : Int) (off n c : Nat) (cs : List Value) (own : Bool) (nd : Nat → Int) (S : Sz)
/-- what a search answers -/
def Fnd (g : Nat → Nat → Int) (x y w h : Nat) (r : Int) (x' y' : Nat) (r' : Int) : Prop := (x ≤ x' ∧ x' < x + w) ∧ (y ≤ y' ∧ y' < y + h) ∧ indx g x' y' 1 1 ≠ 0 ∧ r ≤ r' ∧ r' ≤ r + tT w h
abbrev rs29 : List ResultVar := [.cell 4 35, .tmp 5, .tmp 6]
theorem loop29 (F : Fld Wf HH o off n cs nd) (G : Sure (gr Wf nd) Wf HH) (W0 H0 : Nat) (hW0 : W0 ≤ 8) (hH0 : H0 ≤ 8) (hS : ∀ w h, 1 ≤ w → w ≤ W0 → 1 ≤ h → h ≤ H0 → (planL S)[81 + w * 9 + h]? = some (wv (tB w h))) :
    ∀ N x y w h : Nat, ∀ r : Int, w + h ≤ N → 1 ≤ w → w ≤ W0 → 1 ≤ h → h ≤ H0 → x + w + 1 ≤ Wf → y + h + 1 ≤ HH → 0 ≤ r → r + tT w h ≤ 1000 → indx (gr Wf nd) x y w h ≠ 0 →
    ∃ x' y' r' st', Fnd (gr Wf nd) x y w h r x' y' r' ∧ codeS Try.prog LL ⟨29, 63, 1, none⟩ n29_3 (.seq .skip n29_24) ⟨s29 r, h29 Wf HH o off n c cs own S x y w h, []⟩ = some (.ret, st') ∧
      endS Try.prog rs29 1 (some (.ret, st')) = some ⟨.tuple #[bv x' y' ((1 : Nat) : Int) ((1 : Nat) : Int), iv r', iv 0], [], []⟩ := by
  intro N
  induction N with
  | zero => intro x y w h r h1 h2; omega
  | succ N ih =>
    intro x y w h r hN w1 w2 h1 h2 hx hy hr0 hr hne
    have hwf := F.hw; have hhf := F.hh
    have hB := hS w h w1 w2 h1 h2
    cases hq : tB w h with
    | none =>
      have h11 := (best_T (W := w) (H := h) (by omega) (by omega) w1 h1).2.1 hq
      obtain ⟨rfl, rfl⟩ := h11
      rw [hq] at hB
      obtain ⟨st', e1, e2⟩ := last29 Wf HH o off n c cs own S (x := x) (y := y) (w := 1) (h := 1) (by omega) (by omega) hB r
      have t0 := tT_b 1 1
      refine ⟨x, y, r, st', ⟨⟨by omega, by omega⟩, ⟨by omega, by omega⟩, hne, by omega, by omega⟩, ?_, e2⟩
      exact codeS_ret (by rw [skip_seq]; exact e1)
    | some q =>
      rw [hq] at hB
      obtain ⟨q1, q2, q3⟩ := best_q (W := w) (H := h) (by omega) (by omega) w1 h1 hq
      have hqq : if q.1 then 1 ≤ q.2 ∧ q.2 < w else 1 ≤ q.2 ∧ q.2 < h := by
        cases hq1 : q.1 with
        | true => rw [hq1] at q2; simp only [if_true] at q2 ⊢; exact ⟨q1, q2⟩
        | false => rw [hq1] at q2; simp only [Bool.false_eq_true, if_false] at q2 ⊢; exact ⟨q1, q2⟩
      have tb := tT_b w h
      obtain ⟨σ', b5, b6, k1, k2⟩ := pass29 Wf HH o off n c cs own nd S F (x := x) (y := y) (w := w) (h := h) ⟨w1, by omega⟩ ⟨h1, by omega⟩ hx hy q hB hqq r (by omega)
      -- the next block
      have next : ∃ x1 y1 w1' h1' : Nat, (if indx (gr Wf nd) x y (one w h q).1 (one w h q).2 = 0 then (if q.1 then h29 Wf HH o off n c cs own S (x + q.2) y (w - q.2 : Nat) h else h29 Wf HH o off n c cs own S x (y + q.2) w (h - q.2 : Nat)) else h29 Wf HH o off n c cs own S x y (one w h q).1 (one w h q).2) = h29 Wf HH o off n c cs own S x1 y1 w1' h1' ∧
          w1' + h1' < w + h ∧ 1 ≤ w1' ∧ w1' ≤ w ∧ 1 ≤ h1' ∧ h1' ≤ h ∧ x ≤ x1 ∧ x1 + w1' ≤ x + w ∧ y ≤ y1 ∧ y1 + h1' ≤ y + h ∧ indx (gr Wf nd) x1 y1 w1' h1' ≠ 0 ∧ 0 ≤ ndl w h q ∧ ndl w h q + tT w1' h1' ≤ tT w h := by
        obtain ⟨tag, m⟩ := q
        cases tag with
        | true =>
          simp only [if_true] at hqq ⊢
          have ha := indx_up (n := m) G hx hy (by omega)
          simp only [cst, ndl, one, two, if_true] at q3 ⊢
          by_cases h0 : indx (gr Wf nd) x y m h = 0
          · rw [if_pos h0]
            refine ⟨x + m, y, w - m, h, by rw [Int.natCast_add], by omega, by omega, by omega, by omega, by omega, by omega, by omega, by omega, by omega, ?_, by omega, ?_⟩
            · intro h9; apply hne; rw [ha, h0, h9]; rfl
            · rw [← q3]; omega
          · rw [if_neg h0]
            exact ⟨x, y, m, h, rfl, by omega, by omega, by omega, by omega, by omega, by omega, by omega, by omega, by omega, h0, by omega, by rw [← q3]; omega⟩
        | false =>
          simp only [Bool.false_eq_true, if_false] at hqq ⊢
          have ha := indx_lev (n := m) G hx hy (by omega)
          simp only [cst, ndl, one, two, Bool.false_eq_true, if_false] at q3 ⊢
          by_cases h0 : indx (gr Wf nd) x y w m = 0
          · rw [if_pos h0]
            refine ⟨x, y + m, w, h - m, by rw [Int.natCast_add], by omega, by omega, by omega, by omega, by omega, by omega, by omega, by omega, by omega, ?_, by omega, ?_⟩
            · intro h9; apply hne; rw [ha, h0, h9]; rfl
            · rw [← q3]; omega
          · rw [if_neg h0]
            exact ⟨x, y, w, m, rfl, by omega, by omega, by omega, by omega, by omega, by omega, by omega, by omega, by omega, h0, by omega, by rw [← q3]; omega⟩
      obtain ⟨x1, y1, w1', h1', g1, g2, g3, g4, g5, g6, g7, g8, g9, g10, g11, g12, g13⟩ := next
      rw [g1] at k2
      obtain ⟨x', y', r', st', f1, f2, f3⟩ := ih x1 y1 w1' h1' (r + ndl w h q) (by omega) g3 (by omega) g5 (by omega) (by omega) (by omega) (by omega) (by omega) g11
      refine ⟨x', y', r', st', ?_, ?_, f3⟩
      · obtain ⟨⟨a1, a2⟩, ⟨a3, a4⟩, a5, a6, a7⟩ := f1
        exact ⟨⟨by omega, by omega⟩, ⟨by omega, by omega⟩, a5, by omega, by omega⟩
      · rw [codeS_goto (by rw [skip_seq]; exact k2) fl29 ks29 (by rw [k1]; exact sw29 Wf HH o off n c cs own S x1 y1 w1' h1' _ b5 b6)]
        exact L_scp f2
end
end Go.Proofs.Ytgpcjdhlijompaa.ore
namespace Go.Proofs.Ytgpcjdhlijompaa.ore
open Go.GE
set_option linter.unusedVariables false
set_option linter.unusedSimpArgs false
set_option maxRecDepth 100000
section
variable (Wf HH : Nat) (o : Int) (off n c : Nat) (cs : List Value) (own : Bool) (nd : Nat → Int)
def z29 (w hh o : Int) (off n c : Nat) (X Y W H : Int) : Tm := [(6, iv 0), (5, iv 0), (4, .pointer (some ⟨3, 0, none⟩)), (3, .pointer (some ⟨2, 0, none⟩)), (2, .pointer (some ⟨1, 0, none⟩)), (0, fv w hh o 0 off n c), (1, bv X Y W H)]
def zk29 (r : Int) : Tm := [(8, .pointer (some ⟨4, 0, none⟩)), (6, iv 0), (5, iv r), (4, .pointer (some ⟨3, 0, none⟩)), (3, .pointer (some ⟨2, 0, none⟩)), (2, .pointer (some ⟨1, 0, none⟩))]
def g29 (S : Sz) (x y w h : Int) : List Blk := [.cells cs 1 true own, fb Wf HH o 0 off n c, bb x y w h, .cells [iv 0, iv 0, iv 0, iv 0] 1 true true, planB S]
theorem swz29 (S : Sz) (x y w h r : Int) (b5 b6 : Blk) : sweep 1 ⟨zk29 r, g29 Wf HH o off n c cs own S x y w h ++ [b5, b6], []⟩ = some ⟨s29 r, h29 Wf HH o off n c cs own S x y w h, []⟩ := by
  simp only [s29, h29, zk29, g29, bb, fb]
  simp (disch := first | omega | decide | assumption | simp [scal]) [runOps_nil, runOps_cons, runOpsF_nil, runOpsF_cons, fstS_some, fstF_some, opStep_eq, want_none, oStep_true, oStep_false, fin_pure, fin_read, fin_alloc, fin_write, storeB, wrN, cellV, addWr, o_move, o_assign, o_pick, o_alloc, o_box, o_load, o_store, o_nilCheck, o_bin, o_un, o_extract, o_callV, o_callB, o_callI, callV_f, callV_y, callV_fc, o_makeFunc, partsA, Instr.fill, builtin_len, builtin_max2, bin_add, bin_sub, bin_mul, bin_quo, bin_rem, bin_lss, bin_leq, bin_gtr, bin_geq, bin_eql, bin_neq, un_neg, un_not, opd, opds, optAll, lk, putO, put, has, rep, nbeq, nblt, constOk, isC, ops, sub, cl, cr, co, bodyOf, thenS_normal, thenS_ret, thenS_exit, thenS_goto, afterN_normal, afterN_ret, afterN_exit, afterN_goto, condS_true, condS_false, blockS_normal, blockS_ret, blockS_exit, blockS_goto, loopS_exit, loopS_ret, plainS_some, drawS_some, fpsOk, disj, unord, mem, range', dropTo, enumT, undef, wrap_i64_id, Value.cells, mkCells, ptrTo, scal, cellsAt, rdN, endS_ret, resultsA, Option.bind_some, tupV, finish, reach, reachN, dep, ptrL_eq, ptrL, renL_eq, renL, ptrV_bool, ptrV_int, ptrV_string, ptrV_nilFunc, ptrV_nilIface, ptrV_nilPtr, ptrV_ptr, ptrV_nilSl, ptrV_sl, ptrV_iface, ptrV_agg, ptrV_tuple, ptrV_func, renV_bool, renV_int, renV_string, renV_nilFunc, renV_nilIface, renV_nilPtr, renV_ptr, renV_nilSl, renV_sl, renV_iface, renV_agg, renV_tuple, renV_func, loadA_eq ia_59, za_24, sz_24, loadA_eq ia_24, loadA_eq ia_60, za_35, sz_35, loadA_eq ia_35, o_fieldAddr fa_35_2 (by decide), loadA_eq ia_3, o_fieldAddr fa_35_3 (by decide), o_fieldAddr fa_35_0 (by decide), o_fieldAddr fa_35_1 (by decide), o_fieldAddr fa_24_0 (by decide), o_fieldAddr fa_24_1 (by decide), o_fieldAddr fa_24_2 (by decide), o_fieldAddr fa_24_3 (by decide), loadA_eq ia_22, lenA_sl lk_22, o_indexAddrS es_22, o_fieldAddr fa_89_0 (by decide), o_indexAddrA ea_83, o_indexAddrA ea_82, o_build za_35 pl_35, o_fieldAddr fa_89_1 (by decide), o_indexAddrA ea_87, o_indexAddrA ea_86, loadA_eq ia_85, o_fieldAddr fa_59_0 (by decide), loadA_eq ia_5, o_convI cv_5_3, o_fieldAddr fa_59_1 (by decide), o_fieldAddr fa_59_2 (by decide), o_build za_24 pl_24, o_fieldAddr fa_59_3 (by decide), loadA_eq ia_57, lenA_sl lk_57, o_indexAddrS es_57, ze_22, o_buildSlice es_22 ze_22 (by decide) ba_22_1, ap_22, builtin_append ni_22, sz_22, o_indexAddrA ea_60, za_3, sz_3, za_89, o_build za_89 pl_89, za_90, sz_90, za_79, sz_79, loadA_eq ia_79, loadA_eq ia_90, lenA_sl lk_101, o_indexAddrS es_101, sz_85, o_mkI ii_93, ze_101, o_buildSlice es_101 ze_101 (by decide) ba_101_1, ap_101, builtin_append ni_101, o_mkI ii_94, za_103, o_build za_103 pl_103, o_indexAddrS es_104, ze_104, o_buildSlice es_104 ze_104 (by decide) ba_104_4, lenA_sl lk_104, loadA_eq ia_103, sz_103, o_fieldAddr fa_103_2 (by decide), o_fieldAddr fa_103_0 (by decide), o_fieldAddr fa_103_1 (by decide), sweep, ptrT, renT, optAll, renB_flat, renB_non, ptrB_flat, ptrB_non, idx, ptrB_plan, renB_plan]
theorem first29 (F : Fld Wf HH o off n cs nd) {x y w h : Nat} (hw : 1 ≤ w ∧ w ≤ 8) (hh : 1 ≤ h ∧ h ≤ 8) (hx : x + w + 1 ≤ Wf) (hy : y + h + 1 ≤ HH) (q : Ln) (S : Sz) (hS : S = add S0 w h) (hB : (planL S)[81 + w * 9 + h]? = some (lv q)) (hq : if q.1 then 1 ≤ q.2 ∧ q.2 < w else 1 ≤ q.2 ∧ q.2 < h)
    (i0 : Int) (hi0 : ¬ i0 = 0) (kI : ∀ rest : List Blk, callH LL 20 [fv Wf HH o 0 off n c, bv x y w h] (.cells cs 1 true own :: rest) = some ⟨.tuple #[iv i0, iv 0], .cells cs 1 true own :: rest, [0], []⟩) :
    ∃ σ' b5 b6, keepT [8, 3, 5, 4, 2, 4, 5, 6] σ' = zk29 (ndl w h q) ∧ codeB Try.prog LL ⟨29, 63, 1, none⟩ n29_3 ⟨z29 Wf HH o off n c x y w h, [.cells cs 1 true own, fb Wf HH o 0 off n c, bb x y w h, .cells [iv 0, iv 0, iv 0, iv 0] 1 true true], []⟩ =
      some (.goto 0, ⟨σ', (if indx (gr Wf nd) x y (one w h q).1 (one w h q).2 = 0 then (if q.1 then g29 Wf HH o off n c cs own S (x + q.2) y (w - q.2 : Nat) h else g29 Wf HH o off n c cs own S x (y + q.2) w (h - q.2 : Nat)) else g29 Wf HH o off n c cs own S x y (one w h q).1 (one w h q).2) ++ [b5, b6], []⟩) := by
  have hwf := F.hw; have hhf := F.hh
  obtain ⟨tag, m⟩ := q
  have wi : (w : Int) < 9 := by omega
  have hi : (h : Int) < 9 := by omega
  have k8 := k48 w h hw hh
  rw [← hS] at k8
  cases tag with
  | true =>
    simp only [if_true] at hq
    obtain ⟨m1, m2⟩ := hq
    have eW : (w : Int) - m = ((w - m : Nat) : Int) := by omega
    have kp := fun hp => k73 m x y w h hp (by unfold small; omega) (by unfold small; omega) (by unfold small; omega)
    rw [eW] at kp
    have kn := fun hp => k72 m x y w h hp (by unfold small; omega)
    have ki := fun rest : List Blk => k44 (own := own) c 0 (h := .cells cs 1 true own :: rest) F rfl (X := x) (Y := y) (W := m) (H := h) (by omega) (by omega) (by omega) (by omega)
    simp only [one, ndl, if_true]
    simp only [lv_t] at hB
    by_cases h0 : indx (gr Wf nd) x y m h = 0
    · rw [h0] at ki
      simp only [h0, if_true]
      simp only [z29, g29, planB] at k8 ⊢
      refine ⟨_, _, _, ?_, by
        simp (disch := first | omega | decide | assumption | simp [scal]) [runOps_nil, runOps_cons, runOpsF_nil, runOpsF_cons, fstS_some, fstF_some, opStep_eq, want_none, oStep_true, oStep_false, fin_pure, fin_read, fin_alloc, fin_write, storeB, wrN, cellV, addWr, o_move, o_assign, o_pick, o_alloc, o_box, o_load, o_store, o_nilCheck, o_bin, o_un, o_extract, o_callV, o_callB, o_callI, callV_f, callV_y, callV_fc, o_makeFunc, partsA, Instr.fill, builtin_len, builtin_max2, bin_add, bin_sub, bin_mul, bin_quo, bin_rem, bin_lss, bin_leq, bin_gtr, bin_geq, bin_eql, bin_neq, un_neg, un_not, opd, opds, optAll, lk, putO, put, has, rep, nbeq, nblt, constOk, isC, ops, sub, cl, cr, co, bodyOf, thenS_normal, thenS_ret, thenS_exit, thenS_goto, afterN_normal, afterN_ret, afterN_exit, afterN_goto, condS_true, condS_false, blockS_normal, blockS_ret, blockS_exit, blockS_goto, loopS_exit, loopS_ret, plainS_some, drawS_some, fpsOk, disj, unord, mem, range', dropTo, enumT, undef, wrap_i64_id, Value.cells, mkCells, ptrTo, scal, cellsAt, rdN, endS_ret, resultsA, Option.bind_some, tupV, finish, reach, reachN, dep, ptrL_eq, ptrL, renL_eq, renL, ptrV_bool, ptrV_int, ptrV_string, ptrV_nilFunc, ptrV_nilIface, ptrV_nilPtr, ptrV_ptr, ptrV_nilSl, ptrV_sl, ptrV_iface, ptrV_agg, ptrV_tuple, ptrV_func, renV_bool, renV_int, renV_string, renV_nilFunc, renV_nilIface, renV_nilPtr, renV_ptr, renV_nilSl, renV_sl, renV_iface, renV_agg, renV_tuple, renV_func, za_35, loadA_eq ia_24, loadA_eq ia_35, o_build za_35 pl_35, sz_35, o_fieldAddr fa_35_2 (by decide), loadA_eq ia_3, o_fieldAddr fa_35_3 (by decide), o_fieldAddr fa_89_1 (by decide), o_indexAddrA ea_87, o_indexAddrA ea_86, loadA_eq ia_85, n29_1s, n29_4s, n29_8s, n29_11s, n29_12s, n29_10s, n29_14s, n29_17s, n29_18s, n29_16s, n29_19s, n29_15s, n29_13s, n29_9s, n29_7s, n29_6s, n29_21s, n29_23s, n29_25s, n29_28s, n29_31s, n29_32s, n29_30s, n29_33s, n29_29s, n29_27s, n29_35s, n29_37s, n29_39s, n29_42s, n29_44s, n29_45s, n29_43s, n29_41s, n29_46s, n29_40s, n29_38s, n29_36s, n29_34s, n29_26s, n29_24s, n29_22s, n29_20s, n29_5s, n29_3s, n29_0s, Try.f29, kI, hi0, k8, hB, wi, hi, m93n, m93p, m94n, m94p, kp, kn, ki, eqlI1, h0]
        exact ⟨rfl, rfl, rfl⟩⟩
      simp [keepT, mem, nbeq, zk29]
    · simp only [h0, if_false]
      generalize indx (gr Wf nd) x y m h = i1 at *
      simp only [z29, g29, planB] at k8 ⊢
      refine ⟨_, _, _, ?_, by
        simp (disch := first | omega | decide | assumption | simp [scal]) [runOps_nil, runOps_cons, runOpsF_nil, runOpsF_cons, fstS_some, fstF_some, opStep_eq, want_none, oStep_true, oStep_false, fin_pure, fin_read, fin_alloc, fin_write, storeB, wrN, cellV, addWr, o_move, o_assign, o_pick, o_alloc, o_box, o_load, o_store, o_nilCheck, o_bin, o_un, o_extract, o_callV, o_callB, o_callI, callV_f, callV_y, callV_fc, o_makeFunc, partsA, Instr.fill, builtin_len, builtin_max2, bin_add, bin_sub, bin_mul, bin_quo, bin_rem, bin_lss, bin_leq, bin_gtr, bin_geq, bin_eql, bin_neq, un_neg, un_not, opd, opds, optAll, lk, putO, put, has, rep, nbeq, nblt, constOk, isC, ops, sub, cl, cr, co, bodyOf, thenS_normal, thenS_ret, thenS_exit, thenS_goto, afterN_normal, afterN_ret, afterN_exit, afterN_goto, condS_true, condS_false, blockS_normal, blockS_ret, blockS_exit, blockS_goto, loopS_exit, loopS_ret, plainS_some, drawS_some, fpsOk, disj, unord, mem, range', dropTo, enumT, undef, wrap_i64_id, Value.cells, mkCells, ptrTo, scal, cellsAt, rdN, endS_ret, resultsA, Option.bind_some, tupV, finish, reach, reachN, dep, ptrL_eq, ptrL, renL_eq, renL, ptrV_bool, ptrV_int, ptrV_string, ptrV_nilFunc, ptrV_nilIface, ptrV_nilPtr, ptrV_ptr, ptrV_nilSl, ptrV_sl, ptrV_iface, ptrV_agg, ptrV_tuple, ptrV_func, renV_bool, renV_int, renV_string, renV_nilFunc, renV_nilIface, renV_nilPtr, renV_ptr, renV_nilSl, renV_sl, renV_iface, renV_agg, renV_tuple, renV_func, za_35, loadA_eq ia_24, loadA_eq ia_35, o_build za_35 pl_35, sz_35, o_fieldAddr fa_35_2 (by decide), loadA_eq ia_3, o_fieldAddr fa_35_3 (by decide), o_fieldAddr fa_89_1 (by decide), o_indexAddrA ea_87, o_indexAddrA ea_86, loadA_eq ia_85, n29_1s, n29_4s, n29_8s, n29_11s, n29_12s, n29_10s, n29_14s, n29_17s, n29_18s, n29_16s, n29_19s, n29_15s, n29_13s, n29_9s, n29_7s, n29_6s, n29_21s, n29_23s, n29_25s, n29_28s, n29_31s, n29_32s, n29_30s, n29_33s, n29_29s, n29_27s, n29_35s, n29_37s, n29_39s, n29_42s, n29_44s, n29_45s, n29_43s, n29_41s, n29_46s, n29_40s, n29_38s, n29_36s, n29_34s, n29_26s, n29_24s, n29_22s, n29_20s, n29_5s, n29_3s, n29_0s, Try.f29, kI, hi0, k8, hB, wi, hi, m93n, m93p, m94n, m94p, kp, kn, ki, eqlI1, h0]
        exact ⟨rfl, rfl, rfl⟩⟩
      simp [keepT, mem, nbeq, zk29]
  | false =>
    simp only [Bool.false_eq_true, if_false] at hq
    obtain ⟨m1, m2⟩ := hq
    have eW : (h : Int) - m = ((h - m : Nat) : Int) := by omega
    have kp := fun hp => k75 m x y w h hp (by unfold small; omega) (by unfold small; omega) (by unfold small; omega)
    rw [eW] at kp
    have kn := fun hp => k74 m x y w h hp (by unfold small; omega)
    have ki := fun rest : List Blk => k44 (own := own) c 0 (h := .cells cs 1 true own :: rest) F rfl (X := x) (Y := y) (W := w) (H := m) (by omega) (by omega) (by omega) (by omega)
    simp only [one, ndl, Bool.false_eq_true, if_false]
    simp only [lv_f] at hB
    by_cases h0 : indx (gr Wf nd) x y w m = 0
    · rw [h0] at ki
      simp only [h0, if_true]
      simp only [z29, g29, planB] at k8 ⊢
      refine ⟨_, _, _, ?_, by
        simp (disch := first | omega | decide | assumption | simp [scal]) [runOps_nil, runOps_cons, runOpsF_nil, runOpsF_cons, fstS_some, fstF_some, opStep_eq, want_none, oStep_true, oStep_false, fin_pure, fin_read, fin_alloc, fin_write, storeB, wrN, cellV, addWr, o_move, o_assign, o_pick, o_alloc, o_box, o_load, o_store, o_nilCheck, o_bin, o_un, o_extract, o_callV, o_callB, o_callI, callV_f, callV_y, callV_fc, o_makeFunc, partsA, Instr.fill, builtin_len, builtin_max2, bin_add, bin_sub, bin_mul, bin_quo, bin_rem, bin_lss, bin_leq, bin_gtr, bin_geq, bin_eql, bin_neq, un_neg, un_not, opd, opds, optAll, lk, putO, put, has, rep, nbeq, nblt, constOk, isC, ops, sub, cl, cr, co, bodyOf, thenS_normal, thenS_ret, thenS_exit, thenS_goto, afterN_normal, afterN_ret, afterN_exit, afterN_goto, condS_true, condS_false, blockS_normal, blockS_ret, blockS_exit, blockS_goto, loopS_exit, loopS_ret, plainS_some, drawS_some, fpsOk, disj, unord, mem, range', dropTo, enumT, undef, wrap_i64_id, Value.cells, mkCells, ptrTo, scal, cellsAt, rdN, endS_ret, resultsA, Option.bind_some, tupV, finish, reach, reachN, dep, ptrL_eq, ptrL, renL_eq, renL, ptrV_bool, ptrV_int, ptrV_string, ptrV_nilFunc, ptrV_nilIface, ptrV_nilPtr, ptrV_ptr, ptrV_nilSl, ptrV_sl, ptrV_iface, ptrV_agg, ptrV_tuple, ptrV_func, renV_bool, renV_int, renV_string, renV_nilFunc, renV_nilIface, renV_nilPtr, renV_ptr, renV_nilSl, renV_sl, renV_iface, renV_agg, renV_tuple, renV_func, za_35, loadA_eq ia_24, loadA_eq ia_35, o_build za_35 pl_35, sz_35, o_fieldAddr fa_35_2 (by decide), loadA_eq ia_3, o_fieldAddr fa_35_3 (by decide), o_fieldAddr fa_89_1 (by decide), o_indexAddrA ea_87, o_indexAddrA ea_86, loadA_eq ia_85, n29_1s, n29_4s, n29_8s, n29_11s, n29_12s, n29_10s, n29_14s, n29_17s, n29_18s, n29_16s, n29_19s, n29_15s, n29_13s, n29_9s, n29_7s, n29_6s, n29_21s, n29_23s, n29_25s, n29_28s, n29_31s, n29_32s, n29_30s, n29_33s, n29_29s, n29_27s, n29_35s, n29_37s, n29_39s, n29_42s, n29_44s, n29_45s, n29_43s, n29_41s, n29_46s, n29_40s, n29_38s, n29_36s, n29_34s, n29_26s, n29_24s, n29_22s, n29_20s, n29_5s, n29_3s, n29_0s, Try.f29, kI, hi0, k8, hB, wi, hi, m93n, m93p, m94n, m94p, kp, kn, ki, eqlI1, h0]
        exact ⟨rfl, rfl, rfl⟩⟩
      simp [keepT, mem, nbeq, zk29]
    · simp only [h0, if_false]
      generalize indx (gr Wf nd) x y w m = i1 at *
      simp only [z29, g29, planB] at k8 ⊢
      refine ⟨_, _, _, ?_, by
        simp (disch := first | omega | decide | assumption | simp [scal]) [runOps_nil, runOps_cons, runOpsF_nil, runOpsF_cons, fstS_some, fstF_some, opStep_eq, want_none, oStep_true, oStep_false, fin_pure, fin_read, fin_alloc, fin_write, storeB, wrN, cellV, addWr, o_move, o_assign, o_pick, o_alloc, o_box, o_load, o_store, o_nilCheck, o_bin, o_un, o_extract, o_callV, o_callB, o_callI, callV_f, callV_y, callV_fc, o_makeFunc, partsA, Instr.fill, builtin_len, builtin_max2, bin_add, bin_sub, bin_mul, bin_quo, bin_rem, bin_lss, bin_leq, bin_gtr, bin_geq, bin_eql, bin_neq, un_neg, un_not, opd, opds, optAll, lk, putO, put, has, rep, nbeq, nblt, constOk, isC, ops, sub, cl, cr, co, bodyOf, thenS_normal, thenS_ret, thenS_exit, thenS_goto, afterN_normal, afterN_ret, afterN_exit, afterN_goto, condS_true, condS_false, blockS_normal, blockS_ret, blockS_exit, blockS_goto, loopS_exit, loopS_ret, plainS_some, drawS_some, fpsOk, disj, unord, mem, range', dropTo, enumT, undef, wrap_i64_id, Value.cells, mkCells, ptrTo, scal, cellsAt, rdN, endS_ret, resultsA, Option.bind_some, tupV, finish, reach, reachN, dep, ptrL_eq, ptrL, renL_eq, renL, ptrV_bool, ptrV_int, ptrV_string, ptrV_nilFunc, ptrV_nilIface, ptrV_nilPtr, ptrV_ptr, ptrV_nilSl, ptrV_sl, ptrV_iface, ptrV_agg, ptrV_tuple, ptrV_func, renV_bool, renV_int, renV_string, renV_nilFunc, renV_nilIface, renV_nilPtr, renV_ptr, renV_nilSl, renV_sl, renV_iface, renV_agg, renV_tuple, renV_func, za_35, loadA_eq ia_24, loadA_eq ia_35, o_build za_35 pl_35, sz_35, o_fieldAddr fa_35_2 (by decide), loadA_eq ia_3, o_fieldAddr fa_35_3 (by decide), o_fieldAddr fa_89_1 (by decide), o_indexAddrA ea_87, o_indexAddrA ea_86, loadA_eq ia_85, n29_1s, n29_4s, n29_8s, n29_11s, n29_12s, n29_10s, n29_14s, n29_17s, n29_18s, n29_16s, n29_19s, n29_15s, n29_13s, n29_9s, n29_7s, n29_6s, n29_21s, n29_23s, n29_25s, n29_28s, n29_31s, n29_32s, n29_30s, n29_33s, n29_29s, n29_27s, n29_35s, n29_37s, n29_39s, n29_42s, n29_44s, n29_45s, n29_43s, n29_41s, n29_46s, n29_40s, n29_38s, n29_36s, n29_34s, n29_26s, n29_24s, n29_22s, n29_20s, n29_5s, n29_3s, n29_0s, Try.f29, kI, hi0, k8, hB, wi, hi, m93n, m93p, m94n, m94p, kp, kn, ki, eqlI1, h0]
        exact ⟨rfl, rfl, rfl⟩⟩
      simp [keepT, mem, nbeq, zk29]
theorem single29 (x y : Int) (i0 : Int) (hi0 : ¬ i0 = 0) (kI : ∀ rest : List Blk, callH LL 20 [fv Wf HH o 0 off n c, bv x y 1 1] (.cells cs 1 true own :: rest) = some ⟨.tuple #[iv i0, iv 0], .cells cs 1 true own :: rest, [0], []⟩) :
    ∃ st', codeB Try.prog LL ⟨29, 63, 1, none⟩ n29_3 ⟨z29 Wf HH o off n c x y 1 1, [.cells cs 1 true own, fb Wf HH o 0 off n c, bb x y 1 1, .cells [iv 0, iv 0, iv 0, iv 0] 1 true true], []⟩ = some (.ret, st') ∧
      endS Try.prog rs29 1 (some (.ret, st')) = some ⟨.tuple #[bv x y 1 1, iv 0, iv 0], [], []⟩ := by
  have k8 := k48 1 1 (by omega) (by omega)
  have hB : (planL (add S0 1 1))[81 + 1 * 9 + 1]? = some .nilIface := planBest (W := 1) (H := 1) (by omega) (by omega)
  simp only [z29, planB, Int.natCast_one] at k8 ⊢
  generalize planL (add S0 1 1) = pl at *
  refine ⟨_, by
    simp (disch := first | omega | decide | assumption | simp [scal]) [runOps_nil, runOps_cons, runOpsF_nil, runOpsF_cons, fstS_some, fstF_some, opStep_eq, want_none, oStep_true, oStep_false, fin_pure, fin_read, fin_alloc, fin_write, storeB, wrN, cellV, addWr, o_move, o_assign, o_pick, o_alloc, o_box, o_load, o_store, o_nilCheck, o_bin, o_un, o_extract, o_callV, o_callB, o_callI, callV_f, callV_y, callV_fc, o_makeFunc, partsA, Instr.fill, builtin_len, builtin_max2, bin_add, bin_sub, bin_mul, bin_quo, bin_rem, bin_lss, bin_leq, bin_gtr, bin_geq, bin_eql, bin_neq, un_neg, un_not, opd, opds, optAll, lk, putO, put, has, rep, nbeq, nblt, constOk, isC, ops, sub, cl, cr, co, bodyOf, thenS_normal, thenS_ret, thenS_exit, thenS_goto, afterN_normal, afterN_ret, afterN_exit, afterN_goto, condS_true, condS_false, blockS_normal, blockS_ret, blockS_exit, blockS_goto, loopS_exit, loopS_ret, plainS_some, drawS_some, fpsOk, disj, unord, mem, range', dropTo, enumT, undef, wrap_i64_id, Value.cells, mkCells, ptrTo, scal, cellsAt, rdN, endS_ret, resultsA, Option.bind_some, tupV, finish, reach, reachN, dep, ptrL_eq, ptrL, renL_eq, renL, ptrV_bool, ptrV_int, ptrV_string, ptrV_nilFunc, ptrV_nilIface, ptrV_nilPtr, ptrV_ptr, ptrV_nilSl, ptrV_sl, ptrV_iface, ptrV_agg, ptrV_tuple, ptrV_func, renV_bool, renV_int, renV_string, renV_nilFunc, renV_nilIface, renV_nilPtr, renV_ptr, renV_nilSl, renV_sl, renV_iface, renV_agg, renV_tuple, renV_func, za_35, loadA_eq ia_24, loadA_eq ia_35, o_build za_35 pl_35, sz_35, o_fieldAddr fa_35_2 (by decide), loadA_eq ia_3, o_fieldAddr fa_35_3 (by decide), o_fieldAddr fa_89_1 (by decide), o_indexAddrA ea_87, o_indexAddrA ea_86, loadA_eq ia_85, n29_1s, n29_4s, n29_8s, n29_11s, n29_12s, n29_10s, n29_14s, n29_17s, n29_18s, n29_16s, n29_19s, n29_15s, n29_13s, n29_9s, n29_7s, n29_6s, n29_21s, n29_23s, n29_25s, n29_28s, n29_31s, n29_32s, n29_30s, n29_33s, n29_29s, n29_27s, n29_35s, n29_37s, n29_39s, n29_42s, n29_44s, n29_45s, n29_43s, n29_41s, n29_46s, n29_40s, n29_38s, n29_36s, n29_34s, n29_26s, n29_24s, n29_22s, n29_20s, n29_5s, n29_3s, n29_0s, Try.f29, kI, hi0, k8, hB, eqlI0]
    rfl, ?_⟩
  simp (disch := first | omega | decide | assumption | simp [scal]) [runOps_nil, runOps_cons, runOpsF_nil, runOpsF_cons, fstS_some, fstF_some, opStep_eq, want_none, oStep_true, oStep_false, fin_pure, fin_read, fin_alloc, fin_write, storeB, wrN, cellV, addWr, o_move, o_assign, o_pick, o_alloc, o_box, o_load, o_store, o_nilCheck, o_bin, o_un, o_extract, o_callV, o_callB, o_callI, callV_f, callV_y, callV_fc, o_makeFunc, partsA, Instr.fill, builtin_len, builtin_max2, bin_add, bin_sub, bin_mul, bin_quo, bin_rem, bin_lss, bin_leq, bin_gtr, bin_geq, bin_eql, bin_neq, un_neg, un_not, opd, opds, optAll, lk, putO, put, has, rep, nbeq, nblt, constOk, isC, ops, sub, cl, cr, co, bodyOf, thenS_normal, thenS_ret, thenS_exit, thenS_goto, afterN_normal, afterN_ret, afterN_exit, afterN_goto, condS_true, condS_false, blockS_normal, blockS_ret, blockS_exit, blockS_goto, loopS_exit, loopS_ret, plainS_some, drawS_some, fpsOk, disj, unord, mem, range', dropTo, enumT, undef, wrap_i64_id, Value.cells, mkCells, ptrTo, scal, cellsAt, rdN, endS_ret, resultsA, Option.bind_some, tupV, finish, reach, reachN, dep, ptrL_eq, ptrL, renL_eq, renL, ptrV_bool, ptrV_int, ptrV_string, ptrV_nilFunc, ptrV_nilIface, ptrV_nilPtr, ptrV_ptr, ptrV_nilSl, ptrV_sl, ptrV_iface, ptrV_agg, ptrV_tuple, ptrV_func, renV_bool, renV_int, renV_string, renV_nilFunc, renV_nilIface, renV_nilPtr, renV_ptr, renV_nilSl, renV_sl, renV_iface, renV_agg, renV_tuple, renV_func, loadA_eq ia_59, za_24, sz_24, loadA_eq ia_24, loadA_eq ia_60, za_35, sz_35, loadA_eq ia_35, o_fieldAddr fa_35_2 (by decide), loadA_eq ia_3, o_fieldAddr fa_35_3 (by decide), o_fieldAddr fa_35_0 (by decide), o_fieldAddr fa_35_1 (by decide), o_fieldAddr fa_24_0 (by decide), o_fieldAddr fa_24_1 (by decide), o_fieldAddr fa_24_2 (by decide), o_fieldAddr fa_24_3 (by decide), loadA_eq ia_22, lenA_sl lk_22, o_indexAddrS es_22, o_fieldAddr fa_89_0 (by decide), o_indexAddrA ea_83, o_indexAddrA ea_82, o_build za_35 pl_35, o_fieldAddr fa_89_1 (by decide), o_indexAddrA ea_87, o_indexAddrA ea_86, loadA_eq ia_85, o_fieldAddr fa_59_0 (by decide), loadA_eq ia_5, o_convI cv_5_3, o_fieldAddr fa_59_1 (by decide), o_fieldAddr fa_59_2 (by decide), o_build za_24 pl_24, o_fieldAddr fa_59_3 (by decide), loadA_eq ia_57, lenA_sl lk_57, o_indexAddrS es_57, ze_22, o_buildSlice es_22 ze_22 (by decide) ba_22_1, ap_22, builtin_append ni_22, sz_22, o_indexAddrA ea_60, za_3, sz_3, za_89, o_build za_89 pl_89, za_90, sz_90, za_79, sz_79, loadA_eq ia_79, loadA_eq ia_90, lenA_sl lk_101, o_indexAddrS es_101, sz_85, o_mkI ii_93, ze_101, o_buildSlice es_101 ze_101 (by decide) ba_101_1, ap_101, builtin_append ni_101, o_mkI ii_94, za_103, o_build za_103 pl_103, o_indexAddrS es_104, ze_104, o_buildSlice es_104 ze_104 (by decide) ba_104_4, lenA_sl lk_104, loadA_eq ia_103, sz_103, o_fieldAddr fa_103_2 (by decide), o_fieldAddr fa_103_0 (by decide), o_fieldAddr fa_103_1 (by decide), optAll]
end
end Go.Proofs.Ytgpcjdhlijompaa.ore
