/-
  Contracts of functions of the program at the limit evaluator, continued. No condition.
-/
import Derived.Test.YtgpcjdhlijompaaXD

namespace Go.Proofs.Ytgpcjdhlijompaa.ore
open Go.GE
set_option linter.unusedVariables false
set_option linter.unusedSimpArgs false
set_option maxRecDepth 100000
/-- a line: upright or level, and where -/
abbrev Ln := Bool × Nat
def lv (l : Ln) : Value := .iface (if l.1 then 93 else 94) (iv l.2)
theorem lv_t {n : Nat} : lv (true, n) = .iface 93 (iv n) := rfl
theorem lv_f {n : Nat} : lv (false, n) = .iface 94 (iv n) := rfl
def linB (l : List Ln) : Blk := .cells (l.map lv) 1 false true
def linN (l : List Ln) : Blk := linB l
theorem lin_noIds (l : List Ln) : noIds (l.map lv) := noIds_of fun v hv => by
  obtain ⟨q, _, rfl⟩ := List.mem_map.1 hv
  exact ⟨fun f => rfl, rfl⟩
theorem ptrB_lin {l : List Ln} : ptrB (linB l) = [] := noIds_ptrB (lin_noIds l)
theorem renB_lin {f : Nat → Option Nat} {l : List Ln} : renB f (linB l) = some (linB l) := noIds_renB (lin_noIds l)
def slL (b : Nat) : List Ln → Value
  | [] => .slice none 0 0
  | q :: t => .slice (some ⟨b, 0, none⟩) (t.length + 1) (t.length + 1)
def blL : List Ln → List Blk
  | [] => []
  | q :: t => [linB (q :: t)]
def ups (n : Nat) : List Ln := (List.range n).map fun i => (true, i + 1)
def levs (n : Nat) : List Ln := (List.range n).map fun i => (false, i + 1)
def lineL (W H : Nat) : List Ln := ups (W - 1) ++ levs (H - 1)
theorem app_lin {h : List Blk} {b c : Nat} {q : Ln} {t : List Ln} {p : Ln} {rd : List Nat} (hl : (q :: t).length ≤ 1000) : appS h 1 16 b 0 (t.length + 1) c (some (linB (q :: t))) (some (1, [lv p], false, rd)) =
    some ⟨.slice (some ⟨h.length, 0, none⟩) (t.length + 1 + 1) (t.length + 1 + 1), h.set b .dead ++ [linB (q :: (t ++ [p]))], b :: rd, [b]⟩ := by
  have hr := rdN_all ((q :: t).map lv) ((t.length + 1) * 1) 0 (by simp)
  simp only [List.length_cons] at hl
  simp only [appS, linB, hr, List.drop_zero]
  rw [if_pos (by refine ⟨by omega, by omega, ?_, ?_⟩ <;> first | trivial | rfl)]
  simp
def bx55 : List Ln → Nat
  | [] => 0
  | _ :: _ => 1
section
variable (X Y : Int) (W H : Nat)
def L55 (n : Nat) (l : List Ln) : Tm := [(4, iv n), (3, slL 0 l), (2, .slice none 0 0), (1, .pointer (some ⟨bx55 l, 0, none⟩)), (0, bv X Y W H)]
def H55 : List Ln → List Blk
  | [] => [bb X Y W H]
  | q :: t => [linB (q :: t), bb X Y W H]
theorem l55a (hW : W ≤ 100 ∧ H ≤ 100) (hp : 1 ≤ W) : ∀ k n : Nat, n + k = W → 1 ≤ n →
    codeB Try.prog LL ⟨55, 29, 0, none⟩ n55_8 ⟨L55 X Y W H n (ups (n - 1)), H55 X Y W H (ups (n - 1)), []⟩ =
      some (.exit 0, ⟨(9, .bool false) :: (8, iv W) :: (7, .pointer (some ⟨bx55 (ups (W - 1)), 2, none⟩)) :: (6, iv W) :: L55 X Y W H W (ups (W - 1)), H55 X Y W H (ups (W - 1)), []⟩) := by
  intro k
  induction k with
  | zero =>
    intro n hn h1
    obtain rfl : W = n := by omega
    rw [n55_8s]
    generalize ups (W - 1) = l at *
    cases l with
    | nil =>
      simp only [L55, H55, bx55, slL]
      simp (disch := first | omega | decide | assumption | simp [scal]) [runOps_nil, runOps_cons, runOpsF_nil, runOpsF_cons, fstS_some, fstF_some, opStep_eq, want_none, oStep_true, oStep_false, fin_pure, fin_read, fin_alloc, fin_write, storeB, wrN, cellV, addWr, o_move, o_assign, o_pick, o_alloc, o_box, o_load, o_store, o_nilCheck, o_bin, o_un, o_extract, o_callV, o_callB, o_callI, callV_f, callV_y, callV_fc, o_makeFunc, partsA, Instr.fill, builtin_len, builtin_max2, bin_add, bin_sub, bin_mul, bin_quo, bin_rem, bin_lss, bin_leq, bin_gtr, bin_geq, bin_eql, bin_neq, un_neg, un_not, opd, opds, optAll, lk, putO, put, has, rep, nbeq, nblt, constOk, isC, ops, sub, cl, cr, co, bodyOf, thenS_normal, thenS_ret, thenS_exit, thenS_goto, afterN_normal, afterN_ret, afterN_exit, afterN_goto, condS_true, condS_false, blockS_normal, blockS_ret, blockS_exit, blockS_goto, loopS_exit, loopS_ret, plainS_some, drawS_some, fpsOk, disj, unord, mem, range', dropTo, enumT, undef, wrap_i64_id, Value.cells, mkCells, ptrTo, scal, cellsAt, rdN, endS_ret, resultsA, Option.bind_some, tupV, finish, reach, reachN, dep, ptrL_eq, ptrL, renL_eq, renL, ptrV_bool, ptrV_int, ptrV_string, ptrV_nilFunc, ptrV_nilIface, ptrV_nilPtr, ptrV_ptr, ptrV_nilSl, ptrV_sl, ptrV_iface, ptrV_agg, ptrV_tuple, ptrV_func, renV_bool, renV_int, renV_string, renV_nilFunc, renV_nilIface, renV_nilPtr, renV_ptr, renV_nilSl, renV_sl, renV_iface, renV_agg, renV_tuple, renV_func, o_fieldAddr fa_35_2 (by decide), loadA_eq ia_3, o_mkI ii_93, o_indexAddrS es_101, ze_101, o_buildSlice es_101 ze_101 (by decide) ba_101_1, ap_101, builtin_append ni_101, o_fieldAddr fa_35_3 (by decide), o_mkI ii_94, n55_1s, n55_3s, n55_6s, n55_11s, n55_13s, n55_14s, n55_12s, n55_10s, n55_17s, n55_16s, n55_18s, n55_15s, n55_9s, n55_7s, n55_5s, n55_21s, n55_26s, n55_28s, n55_29s, n55_27s, n55_25s, n55_32s, n55_31s, n55_33s, n55_30s, n55_24s, n55_22s, n55_20s, n55_35s, n55_36s, n55_34s, n55_19s, n55_4s, n55_2s, n55_0s, Try.f55]
    | cons q t =>
      simp only [L55, H55, bx55, slL]
      simp (disch := first | omega | decide | assumption | simp [scal]) [runOps_nil, runOps_cons, runOpsF_nil, runOpsF_cons, fstS_some, fstF_some, opStep_eq, want_none, oStep_true, oStep_false, fin_pure, fin_read, fin_alloc, fin_write, storeB, wrN, cellV, addWr, o_move, o_assign, o_pick, o_alloc, o_box, o_load, o_store, o_nilCheck, o_bin, o_un, o_extract, o_callV, o_callB, o_callI, callV_f, callV_y, callV_fc, o_makeFunc, partsA, Instr.fill, builtin_len, builtin_max2, bin_add, bin_sub, bin_mul, bin_quo, bin_rem, bin_lss, bin_leq, bin_gtr, bin_geq, bin_eql, bin_neq, un_neg, un_not, opd, opds, optAll, lk, putO, put, has, rep, nbeq, nblt, constOk, isC, ops, sub, cl, cr, co, bodyOf, thenS_normal, thenS_ret, thenS_exit, thenS_goto, afterN_normal, afterN_ret, afterN_exit, afterN_goto, condS_true, condS_false, blockS_normal, blockS_ret, blockS_exit, blockS_goto, loopS_exit, loopS_ret, plainS_some, drawS_some, fpsOk, disj, unord, mem, range', dropTo, enumT, undef, wrap_i64_id, Value.cells, mkCells, ptrTo, scal, cellsAt, rdN, endS_ret, resultsA, Option.bind_some, tupV, finish, reach, reachN, dep, ptrL_eq, ptrL, renL_eq, renL, ptrV_bool, ptrV_int, ptrV_string, ptrV_nilFunc, ptrV_nilIface, ptrV_nilPtr, ptrV_ptr, ptrV_nilSl, ptrV_sl, ptrV_iface, ptrV_agg, ptrV_tuple, ptrV_func, renV_bool, renV_int, renV_string, renV_nilFunc, renV_nilIface, renV_nilPtr, renV_ptr, renV_nilSl, renV_sl, renV_iface, renV_agg, renV_tuple, renV_func, o_fieldAddr fa_35_2 (by decide), loadA_eq ia_3, o_mkI ii_93, o_indexAddrS es_101, ze_101, o_buildSlice es_101 ze_101 (by decide) ba_101_1, ap_101, builtin_append ni_101, o_fieldAddr fa_35_3 (by decide), o_mkI ii_94, n55_1s, n55_3s, n55_6s, n55_11s, n55_13s, n55_14s, n55_12s, n55_10s, n55_17s, n55_16s, n55_18s, n55_15s, n55_9s, n55_7s, n55_5s, n55_21s, n55_26s, n55_28s, n55_29s, n55_27s, n55_25s, n55_32s, n55_31s, n55_33s, n55_30s, n55_24s, n55_22s, n55_20s, n55_35s, n55_36s, n55_34s, n55_19s, n55_4s, n55_2s, n55_0s, Try.f55]
  | succ k ih =>
    intro n hn h1
    have this := L_code (ih (n + 1) (by omega) (by omega))
    have e1 : n < W := by omega
    have e2 : ups (n + 1 - 1) = ups (n - 1) ++ [(true, n)] := by
      obtain ⟨m, rfl⟩ : ∃ m, n = m + 1 := ⟨n - 1, by omega⟩
      simp [ups, levs, List.range_succ]
    have hl : (ups (n - 1)).length ≤ 1000 := by simp [ups, levs]; omega
    rw [e2] at this
    rw [n55_8s]
    generalize ups (n - 1) = l at *
    cases l with
    | nil =>
      simp only [L55, H55, bx55, slL, List.nil_append, cast1, linB, lv_t, lv_f, List.map_cons, List.map_nil, List.length_nil] at this ⊢
      simp (disch := first | omega | decide | assumption | simp [scal]) [runOps_nil, runOps_cons, runOpsF_nil, runOpsF_cons, fstS_some, fstF_some, opStep_eq, want_none, oStep_true, oStep_false, fin_pure, fin_read, fin_alloc, fin_write, storeB, wrN, cellV, addWr, o_move, o_assign, o_pick, o_alloc, o_box, o_load, o_store, o_nilCheck, o_bin, o_un, o_extract, o_callV, o_callB, o_callI, callV_f, callV_y, callV_fc, o_makeFunc, partsA, Instr.fill, builtin_len, builtin_max2, bin_add, bin_sub, bin_mul, bin_quo, bin_rem, bin_lss, bin_leq, bin_gtr, bin_geq, bin_eql, bin_neq, un_neg, un_not, opd, opds, optAll, lk, putO, put, has, rep, nbeq, nblt, constOk, isC, ops, sub, cl, cr, co, bodyOf, thenS_normal, thenS_ret, thenS_exit, thenS_goto, afterN_normal, afterN_ret, afterN_exit, afterN_goto, condS_true, condS_false, blockS_normal, blockS_ret, blockS_exit, blockS_goto, loopS_exit, loopS_ret, plainS_some, drawS_some, fpsOk, disj, unord, mem, range', dropTo, enumT, undef, wrap_i64_id, Value.cells, mkCells, ptrTo, scal, cellsAt, rdN, endS_ret, resultsA, Option.bind_some, tupV, finish, reach, reachN, dep, ptrL_eq, ptrL, renL_eq, renL, ptrV_bool, ptrV_int, ptrV_string, ptrV_nilFunc, ptrV_nilIface, ptrV_nilPtr, ptrV_ptr, ptrV_nilSl, ptrV_sl, ptrV_iface, ptrV_agg, ptrV_tuple, ptrV_func, renV_bool, renV_int, renV_string, renV_nilFunc, renV_nilIface, renV_nilPtr, renV_ptr, renV_nilSl, renV_sl, renV_iface, renV_agg, renV_tuple, renV_func, o_fieldAddr fa_35_2 (by decide), loadA_eq ia_3, o_mkI ii_93, o_indexAddrS es_101, ze_101, o_buildSlice es_101 ze_101 (by decide) ba_101_1, ap_101, builtin_append ni_101, o_fieldAddr fa_35_3 (by decide), o_mkI ii_94, n55_1s, n55_3s, n55_6s, n55_11s, n55_13s, n55_14s, n55_12s, n55_10s, n55_17s, n55_16s, n55_18s, n55_15s, n55_9s, n55_7s, n55_5s, n55_21s, n55_26s, n55_28s, n55_29s, n55_27s, n55_25s, n55_32s, n55_31s, n55_33s, n55_30s, n55_24s, n55_22s, n55_20s, n55_35s, n55_36s, n55_34s, n55_19s, n55_4s, n55_2s, n55_0s, Try.f55, e1, loopS_grow, sweep, ptrT, renT, optAll, renB_flat, renB_non, ptrB_flat, ptrB_non, idx, ptrB_lin, renB_lin, append_nil ap_101, appN, srcCells, this]
    | cons q t =>
      have c1 := fun h b c rd => app_lin (h := h) (b := b) (c := c) (q := q) (t := t) (p := (true, n)) (rd := rd) hl
      simp only [lv_t, lv_f] at c1
      simp only [L55, H55, bx55, slL, List.cons_append, List.length_append, List.length_cons, List.length_nil, Nat.zero_add, cast1] at this ⊢
      simp (disch := first | omega | decide | assumption | simp [scal]) [runOps_nil, runOps_cons, runOpsF_nil, runOpsF_cons, fstS_some, fstF_some, opStep_eq, want_none, oStep_true, oStep_false, fin_pure, fin_read, fin_alloc, fin_write, storeB, wrN, cellV, addWr, o_move, o_assign, o_pick, o_alloc, o_box, o_load, o_store, o_nilCheck, o_bin, o_un, o_extract, o_callV, o_callB, o_callI, callV_f, callV_y, callV_fc, o_makeFunc, partsA, Instr.fill, builtin_len, builtin_max2, bin_add, bin_sub, bin_mul, bin_quo, bin_rem, bin_lss, bin_leq, bin_gtr, bin_geq, bin_eql, bin_neq, un_neg, un_not, opd, opds, optAll, lk, putO, put, has, rep, nbeq, nblt, constOk, isC, ops, sub, cl, cr, co, bodyOf, thenS_normal, thenS_ret, thenS_exit, thenS_goto, afterN_normal, afterN_ret, afterN_exit, afterN_goto, condS_true, condS_false, blockS_normal, blockS_ret, blockS_exit, blockS_goto, loopS_exit, loopS_ret, plainS_some, drawS_some, fpsOk, disj, unord, mem, range', dropTo, enumT, undef, wrap_i64_id, Value.cells, mkCells, ptrTo, scal, cellsAt, rdN, endS_ret, resultsA, Option.bind_some, tupV, finish, reach, reachN, dep, ptrL_eq, ptrL, renL_eq, renL, ptrV_bool, ptrV_int, ptrV_string, ptrV_nilFunc, ptrV_nilIface, ptrV_nilPtr, ptrV_ptr, ptrV_nilSl, ptrV_sl, ptrV_iface, ptrV_agg, ptrV_tuple, ptrV_func, renV_bool, renV_int, renV_string, renV_nilFunc, renV_nilIface, renV_nilPtr, renV_ptr, renV_nilSl, renV_sl, renV_iface, renV_agg, renV_tuple, renV_func, o_fieldAddr fa_35_2 (by decide), loadA_eq ia_3, o_mkI ii_93, o_indexAddrS es_101, ze_101, o_buildSlice es_101 ze_101 (by decide) ba_101_1, ap_101, builtin_append ni_101, o_fieldAddr fa_35_3 (by decide), o_mkI ii_94, n55_1s, n55_3s, n55_6s, n55_11s, n55_13s, n55_14s, n55_12s, n55_10s, n55_17s, n55_16s, n55_18s, n55_15s, n55_9s, n55_7s, n55_5s, n55_21s, n55_26s, n55_28s, n55_29s, n55_27s, n55_25s, n55_32s, n55_31s, n55_33s, n55_30s, n55_24s, n55_22s, n55_20s, n55_35s, n55_36s, n55_34s, n55_19s, n55_4s, n55_2s, n55_0s, Try.f55, e1, loopS_grow, sweep, ptrT, renT, optAll, renB_flat, renB_non, ptrB_flat, ptrB_non, idx, ptrB_lin, renB_lin, append_some ap_101, srcCells, c1, this]
theorem l55b (hW : W ≤ 100 ∧ H ≤ 100) (hp : 1 ≤ H) : ∀ k n : Nat, n + k = H → 1 ≤ n →
    codeB Try.prog LL ⟨55, 29, 0, none⟩ n55_23 ⟨((5, iv n) :: L55 X Y W H W (ups (W - 1) ++ levs (n - 1))), H55 X Y W H (ups (W - 1) ++ levs (n - 1)), []⟩ =
      some (.exit 2, ⟨(20, .bool false) :: (19, iv H) :: (18, .pointer (some ⟨bx55 (ups (W - 1) ++ levs (H - 1)), 3, none⟩)) :: (17, iv H) :: ((5, iv H) :: L55 X Y W H W (ups (W - 1) ++ levs (H - 1))), H55 X Y W H (ups (W - 1) ++ levs (H - 1)), []⟩) := by
  intro k
  induction k with
  | zero =>
    intro n hn h1
    obtain rfl : H = n := by omega
    rw [n55_23s]
    generalize ups (W - 1) ++ levs (H - 1) = l at *
    cases l with
    | nil =>
      simp only [L55, H55, bx55, slL]
      simp (disch := first | omega | decide | assumption | simp [scal]) [runOps_nil, runOps_cons, runOpsF_nil, runOpsF_cons, fstS_some, fstF_some, opStep_eq, want_none, oStep_true, oStep_false, fin_pure, fin_read, fin_alloc, fin_write, storeB, wrN, cellV, addWr, o_move, o_assign, o_pick, o_alloc, o_box, o_load, o_store, o_nilCheck, o_bin, o_un, o_extract, o_callV, o_callB, o_callI, callV_f, callV_y, callV_fc, o_makeFunc, partsA, Instr.fill, builtin_len, builtin_max2, bin_add, bin_sub, bin_mul, bin_quo, bin_rem, bin_lss, bin_leq, bin_gtr, bin_geq, bin_eql, bin_neq, un_neg, un_not, opd, opds, optAll, lk, putO, put, has, rep, nbeq, nblt, constOk, isC, ops, sub, cl, cr, co, bodyOf, thenS_normal, thenS_ret, thenS_exit, thenS_goto, afterN_normal, afterN_ret, afterN_exit, afterN_goto, condS_true, condS_false, blockS_normal, blockS_ret, blockS_exit, blockS_goto, loopS_exit, loopS_ret, plainS_some, drawS_some, fpsOk, disj, unord, mem, range', dropTo, enumT, undef, wrap_i64_id, Value.cells, mkCells, ptrTo, scal, cellsAt, rdN, endS_ret, resultsA, Option.bind_some, tupV, finish, reach, reachN, dep, ptrL_eq, ptrL, renL_eq, renL, ptrV_bool, ptrV_int, ptrV_string, ptrV_nilFunc, ptrV_nilIface, ptrV_nilPtr, ptrV_ptr, ptrV_nilSl, ptrV_sl, ptrV_iface, ptrV_agg, ptrV_tuple, ptrV_func, renV_bool, renV_int, renV_string, renV_nilFunc, renV_nilIface, renV_nilPtr, renV_ptr, renV_nilSl, renV_sl, renV_iface, renV_agg, renV_tuple, renV_func, o_fieldAddr fa_35_2 (by decide), loadA_eq ia_3, o_mkI ii_93, o_indexAddrS es_101, ze_101, o_buildSlice es_101 ze_101 (by decide) ba_101_1, ap_101, builtin_append ni_101, o_fieldAddr fa_35_3 (by decide), o_mkI ii_94, n55_1s, n55_3s, n55_6s, n55_11s, n55_13s, n55_14s, n55_12s, n55_10s, n55_17s, n55_16s, n55_18s, n55_15s, n55_9s, n55_7s, n55_5s, n55_21s, n55_26s, n55_28s, n55_29s, n55_27s, n55_25s, n55_32s, n55_31s, n55_33s, n55_30s, n55_24s, n55_22s, n55_20s, n55_35s, n55_36s, n55_34s, n55_19s, n55_4s, n55_2s, n55_0s, Try.f55]
    | cons q t =>
      simp only [L55, H55, bx55, slL]
      simp (disch := first | omega | decide | assumption | simp [scal]) [runOps_nil, runOps_cons, runOpsF_nil, runOpsF_cons, fstS_some, fstF_some, opStep_eq, want_none, oStep_true, oStep_false, fin_pure, fin_read, fin_alloc, fin_write, storeB, wrN, cellV, addWr, o_move, o_assign, o_pick, o_alloc, o_box, o_load, o_store, o_nilCheck, o_bin, o_un, o_extract, o_callV, o_callB, o_callI, callV_f, callV_y, callV_fc, o_makeFunc, partsA, Instr.fill, builtin_len, builtin_max2, bin_add, bin_sub, bin_mul, bin_quo, bin_rem, bin_lss, bin_leq, bin_gtr, bin_geq, bin_eql, bin_neq, un_neg, un_not, opd, opds, optAll, lk, putO, put, has, rep, nbeq, nblt, constOk, isC, ops, sub, cl, cr, co, bodyOf, thenS_normal, thenS_ret, thenS_exit, thenS_goto, afterN_normal, afterN_ret, afterN_exit, afterN_goto, condS_true, condS_false, blockS_normal, blockS_ret, blockS_exit, blockS_goto, loopS_exit, loopS_ret, plainS_some, drawS_some, fpsOk, disj, unord, mem, range', dropTo, enumT, undef, wrap_i64_id, Value.cells, mkCells, ptrTo, scal, cellsAt, rdN, endS_ret, resultsA, Option.bind_some, tupV, finish, reach, reachN, dep, ptrL_eq, ptrL, renL_eq, renL, ptrV_bool, ptrV_int, ptrV_string, ptrV_nilFunc, ptrV_nilIface, ptrV_nilPtr, ptrV_ptr, ptrV_nilSl, ptrV_sl, ptrV_iface, ptrV_agg, ptrV_tuple, ptrV_func, renV_bool, renV_int, renV_string, renV_nilFunc, renV_nilIface, renV_nilPtr, renV_ptr, renV_nilSl, renV_sl, renV_iface, renV_agg, renV_tuple, renV_func, o_fieldAddr fa_35_2 (by decide), loadA_eq ia_3, o_mkI ii_93, o_indexAddrS es_101, ze_101, o_buildSlice es_101 ze_101 (by decide) ba_101_1, ap_101, builtin_append ni_101, o_fieldAddr fa_35_3 (by decide), o_mkI ii_94, n55_1s, n55_3s, n55_6s, n55_11s, n55_13s, n55_14s, n55_12s, n55_10s, n55_17s, n55_16s, n55_18s, n55_15s, n55_9s, n55_7s, n55_5s, n55_21s, n55_26s, n55_28s, n55_29s, n55_27s, n55_25s, n55_32s, n55_31s, n55_33s, n55_30s, n55_24s, n55_22s, n55_20s, n55_35s, n55_36s, n55_34s, n55_19s, n55_4s, n55_2s, n55_0s, Try.f55]
  | succ k ih =>
    intro n hn h1
    have this := L_code (ih (n + 1) (by omega) (by omega))
    have e1 : n < H := by omega
    have e2 : ups (W - 1) ++ levs (n + 1 - 1) = ups (W - 1) ++ levs (n - 1) ++ [(false, n)] := by
      obtain ⟨m, rfl⟩ : ∃ m, n = m + 1 := ⟨n - 1, by omega⟩
      simp [ups, levs, List.range_succ]
    have hl : (ups (W - 1) ++ levs (n - 1)).length ≤ 1000 := by simp [ups, levs]; omega
    rw [e2] at this
    rw [n55_23s]
    generalize ups (W - 1) ++ levs (n - 1) = l at *
    cases l with
    | nil =>
      simp only [L55, H55, bx55, slL, List.nil_append, cast1, linB, lv_t, lv_f, List.map_cons, List.map_nil, List.length_nil] at this ⊢
      simp (disch := first | omega | decide | assumption | simp [scal]) [runOps_nil, runOps_cons, runOpsF_nil, runOpsF_cons, fstS_some, fstF_some, opStep_eq, want_none, oStep_true, oStep_false, fin_pure, fin_read, fin_alloc, fin_write, storeB, wrN, cellV, addWr, o_move, o_assign, o_pick, o_alloc, o_box, o_load, o_store, o_nilCheck, o_bin, o_un, o_extract, o_callV, o_callB, o_callI, callV_f, callV_y, callV_fc, o_makeFunc, partsA, Instr.fill, builtin_len, builtin_max2, bin_add, bin_sub, bin_mul, bin_quo, bin_rem, bin_lss, bin_leq, bin_gtr, bin_geq, bin_eql, bin_neq, un_neg, un_not, opd, opds, optAll, lk, putO, put, has, rep, nbeq, nblt, constOk, isC, ops, sub, cl, cr, co, bodyOf, thenS_normal, thenS_ret, thenS_exit, thenS_goto, afterN_normal, afterN_ret, afterN_exit, afterN_goto, condS_true, condS_false, blockS_normal, blockS_ret, blockS_exit, blockS_goto, loopS_exit, loopS_ret, plainS_some, drawS_some, fpsOk, disj, unord, mem, range', dropTo, enumT, undef, wrap_i64_id, Value.cells, mkCells, ptrTo, scal, cellsAt, rdN, endS_ret, resultsA, Option.bind_some, tupV, finish, reach, reachN, dep, ptrL_eq, ptrL, renL_eq, renL, ptrV_bool, ptrV_int, ptrV_string, ptrV_nilFunc, ptrV_nilIface, ptrV_nilPtr, ptrV_ptr, ptrV_nilSl, ptrV_sl, ptrV_iface, ptrV_agg, ptrV_tuple, ptrV_func, renV_bool, renV_int, renV_string, renV_nilFunc, renV_nilIface, renV_nilPtr, renV_ptr, renV_nilSl, renV_sl, renV_iface, renV_agg, renV_tuple, renV_func, o_fieldAddr fa_35_2 (by decide), loadA_eq ia_3, o_mkI ii_93, o_indexAddrS es_101, ze_101, o_buildSlice es_101 ze_101 (by decide) ba_101_1, ap_101, builtin_append ni_101, o_fieldAddr fa_35_3 (by decide), o_mkI ii_94, n55_1s, n55_3s, n55_6s, n55_11s, n55_13s, n55_14s, n55_12s, n55_10s, n55_17s, n55_16s, n55_18s, n55_15s, n55_9s, n55_7s, n55_5s, n55_21s, n55_26s, n55_28s, n55_29s, n55_27s, n55_25s, n55_32s, n55_31s, n55_33s, n55_30s, n55_24s, n55_22s, n55_20s, n55_35s, n55_36s, n55_34s, n55_19s, n55_4s, n55_2s, n55_0s, Try.f55, e1, loopS_grow, sweep, ptrT, renT, optAll, renB_flat, renB_non, ptrB_flat, ptrB_non, idx, ptrB_lin, renB_lin, append_nil ap_101, appN, srcCells, this]
    | cons q t =>
      have c1 := fun h b c rd => app_lin (h := h) (b := b) (c := c) (q := q) (t := t) (p := (false, n)) (rd := rd) hl
      simp only [lv_t, lv_f] at c1
      simp only [L55, H55, bx55, slL, List.cons_append, List.length_append, List.length_cons, List.length_nil, Nat.zero_add, cast1] at this ⊢
      simp (disch := first | omega | decide | assumption | simp [scal]) [runOps_nil, runOps_cons, runOpsF_nil, runOpsF_cons, fstS_some, fstF_some, opStep_eq, want_none, oStep_true, oStep_false, fin_pure, fin_read, fin_alloc, fin_write, storeB, wrN, cellV, addWr, o_move, o_assign, o_pick, o_alloc, o_box, o_load, o_store, o_nilCheck, o_bin, o_un, o_extract, o_callV, o_callB, o_callI, callV_f, callV_y, callV_fc, o_makeFunc, partsA, Instr.fill, builtin_len, builtin_max2, bin_add, bin_sub, bin_mul, bin_quo, bin_rem, bin_lss, bin_leq, bin_gtr, bin_geq, bin_eql, bin_neq, un_neg, un_not, opd, opds, optAll, lk, putO, put, has, rep, nbeq, nblt, constOk, isC, ops, sub, cl, cr, co, bodyOf, thenS_normal, thenS_ret, thenS_exit, thenS_goto, afterN_normal, afterN_ret, afterN_exit, afterN_goto, condS_true, condS_false, blockS_normal, blockS_ret, blockS_exit, blockS_goto, loopS_exit, loopS_ret, plainS_some, drawS_some, fpsOk, disj, unord, mem, range', dropTo, enumT, undef, wrap_i64_id, Value.cells, mkCells, ptrTo, scal, cellsAt, rdN, endS_ret, resultsA, Option.bind_some, tupV, finish, reach, reachN, dep, ptrL_eq, ptrL, renL_eq, renL, ptrV_bool, ptrV_int, ptrV_string, ptrV_nilFunc, ptrV_nilIface, ptrV_nilPtr, ptrV_ptr, ptrV_nilSl, ptrV_sl, ptrV_iface, ptrV_agg, ptrV_tuple, ptrV_func, renV_bool, renV_int, renV_string, renV_nilFunc, renV_nilIface, renV_nilPtr, renV_ptr, renV_nilSl, renV_sl, renV_iface, renV_agg, renV_tuple, renV_func, o_fieldAddr fa_35_2 (by decide), loadA_eq ia_3, o_mkI ii_93, o_indexAddrS es_101, ze_101, o_buildSlice es_101 ze_101 (by decide) ba_101_1, ap_101, builtin_append ni_101, o_fieldAddr fa_35_3 (by decide), o_mkI ii_94, n55_1s, n55_3s, n55_6s, n55_11s, n55_13s, n55_14s, n55_12s, n55_10s, n55_17s, n55_16s, n55_18s, n55_15s, n55_9s, n55_7s, n55_5s, n55_21s, n55_26s, n55_28s, n55_29s, n55_27s, n55_25s, n55_32s, n55_31s, n55_33s, n55_30s, n55_24s, n55_22s, n55_20s, n55_35s, n55_36s, n55_34s, n55_19s, n55_4s, n55_2s, n55_0s, Try.f55, e1, loopS_grow, sweep, ptrT, renT, optAll, renB_flat, renB_non, ptrB_flat, ptrB_non, idx, ptrB_lin, renB_lin, append_some ap_101, srcCells, c1, this]
theorem c55 (hW : 1 ≤ W ∧ W ≤ 100) (hH : 1 ≤ H ∧ H ≤ 100) : LL.run 55 [bv X Y W H] [] = some ⟨slL 0 (lineL W H), blL (lineL W H), []⟩ := by
  refine go (by decide) ?_
  rw [run55 _ _ _ (by simp)]
  have la := l55a X Y W H ⟨hW.2, hH.2⟩ hW.1 (W - 1) 1 (by omega) (by omega)
  have lb := l55b X Y W H ⟨hW.2, hH.2⟩ hH.1 (H - 1) 1 (by omega) (by omega)
  have e0 : ups (1 - 1) = [] := rfl
  have e1 : levs (1 - 1) = [] := rfl
  have e2 : ups (W - 1) ++ levs (H - 1) = lineL W H := rfl
  rw [e0] at la
  rw [e1, List.append_nil, e2] at lb
  generalize lineL W H = l at *
  generalize ups (W - 1) = u at *
  cases u <;> cases l <;> simp only [L55, H55, bx55, slL, Int.natCast_one, List.append_nil, List.nil_append] at la lb ⊢
  · simp (disch := first | omega | decide | assumption | simp [scal]) [runOps_nil, runOps_cons, runOpsF_nil, runOpsF_cons, fstS_some, fstF_some, opStep_eq, want_none, oStep_true, oStep_false, fin_pure, fin_read, fin_alloc, fin_write, storeB, wrN, cellV, addWr, o_move, o_assign, o_pick, o_alloc, o_box, o_load, o_store, o_nilCheck, o_bin, o_un, o_extract, o_callV, o_callB, o_callI, callV_f, callV_y, callV_fc, o_makeFunc, partsA, Instr.fill, builtin_len, builtin_max2, bin_add, bin_sub, bin_mul, bin_quo, bin_rem, bin_lss, bin_leq, bin_gtr, bin_geq, bin_eql, bin_neq, un_neg, un_not, opd, opds, optAll, lk, putO, put, has, rep, nbeq, nblt, constOk, isC, ops, sub, cl, cr, co, bodyOf, thenS_normal, thenS_ret, thenS_exit, thenS_goto, afterN_normal, afterN_ret, afterN_exit, afterN_goto, condS_true, condS_false, blockS_normal, blockS_ret, blockS_exit, blockS_goto, loopS_exit, loopS_ret, plainS_some, drawS_some, fpsOk, disj, unord, mem, range', dropTo, enumT, undef, wrap_i64_id, Value.cells, mkCells, ptrTo, scal, cellsAt, rdN, endS_ret, resultsA, Option.bind_some, tupV, finish, reach, reachN, dep, ptrL_eq, ptrL, renL_eq, renL, ptrV_bool, ptrV_int, ptrV_string, ptrV_nilFunc, ptrV_nilIface, ptrV_nilPtr, ptrV_ptr, ptrV_nilSl, ptrV_sl, ptrV_iface, ptrV_agg, ptrV_tuple, ptrV_func, renV_bool, renV_int, renV_string, renV_nilFunc, renV_nilIface, renV_nilPtr, renV_ptr, renV_nilSl, renV_sl, renV_iface, renV_agg, renV_tuple, renV_func, o_fieldAddr fa_35_2 (by decide), loadA_eq ia_3, o_mkI ii_93, o_indexAddrS es_101, ze_101, o_buildSlice es_101 ze_101 (by decide) ba_101_1, ap_101, builtin_append ni_101, o_fieldAddr fa_35_3 (by decide), o_mkI ii_94, n55_1s, n55_3s, n55_6s, n55_11s, n55_13s, n55_14s, n55_12s, n55_10s, n55_17s, n55_16s, n55_18s, n55_15s, n55_9s, n55_7s, n55_5s, n55_21s, n55_26s, n55_28s, n55_29s, n55_27s, n55_25s, n55_32s, n55_31s, n55_33s, n55_30s, n55_24s, n55_22s, n55_20s, n55_35s, n55_36s, n55_34s, n55_19s, n55_4s, n55_2s, n55_0s, Try.f55, la, lb, blL]
  · simp (disch := first | omega | decide | assumption | simp [scal]) [runOps_nil, runOps_cons, runOpsF_nil, runOpsF_cons, fstS_some, fstF_some, opStep_eq, want_none, oStep_true, oStep_false, fin_pure, fin_read, fin_alloc, fin_write, storeB, wrN, cellV, addWr, o_move, o_assign, o_pick, o_alloc, o_box, o_load, o_store, o_nilCheck, o_bin, o_un, o_extract, o_callV, o_callB, o_callI, callV_f, callV_y, callV_fc, o_makeFunc, partsA, Instr.fill, builtin_len, builtin_max2, bin_add, bin_sub, bin_mul, bin_quo, bin_rem, bin_lss, bin_leq, bin_gtr, bin_geq, bin_eql, bin_neq, un_neg, un_not, opd, opds, optAll, lk, putO, put, has, rep, nbeq, nblt, constOk, isC, ops, sub, cl, cr, co, bodyOf, thenS_normal, thenS_ret, thenS_exit, thenS_goto, afterN_normal, afterN_ret, afterN_exit, afterN_goto, condS_true, condS_false, blockS_normal, blockS_ret, blockS_exit, blockS_goto, loopS_exit, loopS_ret, plainS_some, drawS_some, fpsOk, disj, unord, mem, range', dropTo, enumT, undef, wrap_i64_id, Value.cells, mkCells, ptrTo, scal, cellsAt, rdN, endS_ret, resultsA, Option.bind_some, tupV, finish, reach, reachN, dep, ptrL_eq, ptrL, renL_eq, renL, ptrV_bool, ptrV_int, ptrV_string, ptrV_nilFunc, ptrV_nilIface, ptrV_nilPtr, ptrV_ptr, ptrV_nilSl, ptrV_sl, ptrV_iface, ptrV_agg, ptrV_tuple, ptrV_func, renV_bool, renV_int, renV_string, renV_nilFunc, renV_nilIface, renV_nilPtr, renV_ptr, renV_nilSl, renV_sl, renV_iface, renV_agg, renV_tuple, renV_func, o_fieldAddr fa_35_2 (by decide), loadA_eq ia_3, o_mkI ii_93, o_indexAddrS es_101, ze_101, o_buildSlice es_101 ze_101 (by decide) ba_101_1, ap_101, builtin_append ni_101, o_fieldAddr fa_35_3 (by decide), o_mkI ii_94, n55_1s, n55_3s, n55_6s, n55_11s, n55_13s, n55_14s, n55_12s, n55_10s, n55_17s, n55_16s, n55_18s, n55_15s, n55_9s, n55_7s, n55_5s, n55_21s, n55_26s, n55_28s, n55_29s, n55_27s, n55_25s, n55_32s, n55_31s, n55_33s, n55_30s, n55_24s, n55_22s, n55_20s, n55_35s, n55_36s, n55_34s, n55_19s, n55_4s, n55_2s, n55_0s, Try.f55, la, lb, blL, optAll, ptrB_lin, renB_lin, idx]
  · simp (disch := first | omega | decide | assumption | simp [scal]) [runOps_nil, runOps_cons, runOpsF_nil, runOpsF_cons, fstS_some, fstF_some, opStep_eq, want_none, oStep_true, oStep_false, fin_pure, fin_read, fin_alloc, fin_write, storeB, wrN, cellV, addWr, o_move, o_assign, o_pick, o_alloc, o_box, o_load, o_store, o_nilCheck, o_bin, o_un, o_extract, o_callV, o_callB, o_callI, callV_f, callV_y, callV_fc, o_makeFunc, partsA, Instr.fill, builtin_len, builtin_max2, bin_add, bin_sub, bin_mul, bin_quo, bin_rem, bin_lss, bin_leq, bin_gtr, bin_geq, bin_eql, bin_neq, un_neg, un_not, opd, opds, optAll, lk, putO, put, has, rep, nbeq, nblt, constOk, isC, ops, sub, cl, cr, co, bodyOf, thenS_normal, thenS_ret, thenS_exit, thenS_goto, afterN_normal, afterN_ret, afterN_exit, afterN_goto, condS_true, condS_false, blockS_normal, blockS_ret, blockS_exit, blockS_goto, loopS_exit, loopS_ret, plainS_some, drawS_some, fpsOk, disj, unord, mem, range', dropTo, enumT, undef, wrap_i64_id, Value.cells, mkCells, ptrTo, scal, cellsAt, rdN, endS_ret, resultsA, Option.bind_some, tupV, finish, reach, reachN, dep, ptrL_eq, ptrL, renL_eq, renL, ptrV_bool, ptrV_int, ptrV_string, ptrV_nilFunc, ptrV_nilIface, ptrV_nilPtr, ptrV_ptr, ptrV_nilSl, ptrV_sl, ptrV_iface, ptrV_agg, ptrV_tuple, ptrV_func, renV_bool, renV_int, renV_string, renV_nilFunc, renV_nilIface, renV_nilPtr, renV_ptr, renV_nilSl, renV_sl, renV_iface, renV_agg, renV_tuple, renV_func, o_fieldAddr fa_35_2 (by decide), loadA_eq ia_3, o_mkI ii_93, o_indexAddrS es_101, ze_101, o_buildSlice es_101 ze_101 (by decide) ba_101_1, ap_101, builtin_append ni_101, o_fieldAddr fa_35_3 (by decide), o_mkI ii_94, n55_1s, n55_3s, n55_6s, n55_11s, n55_13s, n55_14s, n55_12s, n55_10s, n55_17s, n55_16s, n55_18s, n55_15s, n55_9s, n55_7s, n55_5s, n55_21s, n55_26s, n55_28s, n55_29s, n55_27s, n55_25s, n55_32s, n55_31s, n55_33s, n55_30s, n55_24s, n55_22s, n55_20s, n55_35s, n55_36s, n55_34s, n55_19s, n55_4s, n55_2s, n55_0s, Try.f55, la, lb, blL]
  · simp (disch := first | omega | decide | assumption | simp [scal]) [runOps_nil, runOps_cons, runOpsF_nil, runOpsF_cons, fstS_some, fstF_some, opStep_eq, want_none, oStep_true, oStep_false, fin_pure, fin_read, fin_alloc, fin_write, storeB, wrN, cellV, addWr, o_move, o_assign, o_pick, o_alloc, o_box, o_load, o_store, o_nilCheck, o_bin, o_un, o_extract, o_callV, o_callB, o_callI, callV_f, callV_y, callV_fc, o_makeFunc, partsA, Instr.fill, builtin_len, builtin_max2, bin_add, bin_sub, bin_mul, bin_quo, bin_rem, bin_lss, bin_leq, bin_gtr, bin_geq, bin_eql, bin_neq, un_neg, un_not, opd, opds, optAll, lk, putO, put, has, rep, nbeq, nblt, constOk, isC, ops, sub, cl, cr, co, bodyOf, thenS_normal, thenS_ret, thenS_exit, thenS_goto, afterN_normal, afterN_ret, afterN_exit, afterN_goto, condS_true, condS_false, blockS_normal, blockS_ret, blockS_exit, blockS_goto, loopS_exit, loopS_ret, plainS_some, drawS_some, fpsOk, disj, unord, mem, range', dropTo, enumT, undef, wrap_i64_id, Value.cells, mkCells, ptrTo, scal, cellsAt, rdN, endS_ret, resultsA, Option.bind_some, tupV, finish, reach, reachN, dep, ptrL_eq, ptrL, renL_eq, renL, ptrV_bool, ptrV_int, ptrV_string, ptrV_nilFunc, ptrV_nilIface, ptrV_nilPtr, ptrV_ptr, ptrV_nilSl, ptrV_sl, ptrV_iface, ptrV_agg, ptrV_tuple, ptrV_func, renV_bool, renV_int, renV_string, renV_nilFunc, renV_nilIface, renV_nilPtr, renV_ptr, renV_nilSl, renV_sl, renV_iface, renV_agg, renV_tuple, renV_func, o_fieldAddr fa_35_2 (by decide), loadA_eq ia_3, o_mkI ii_93, o_indexAddrS es_101, ze_101, o_buildSlice es_101 ze_101 (by decide) ba_101_1, ap_101, builtin_append ni_101, o_fieldAddr fa_35_3 (by decide), o_mkI ii_94, n55_1s, n55_3s, n55_6s, n55_11s, n55_13s, n55_14s, n55_12s, n55_10s, n55_17s, n55_16s, n55_18s, n55_15s, n55_9s, n55_7s, n55_5s, n55_21s, n55_26s, n55_28s, n55_29s, n55_27s, n55_25s, n55_32s, n55_31s, n55_33s, n55_30s, n55_24s, n55_22s, n55_20s, n55_35s, n55_36s, n55_34s, n55_19s, n55_4s, n55_2s, n55_0s, Try.f55, la, lb, blL, optAll, ptrB_lin, renB_lin, idx]
end
end Go.Proofs.Ytgpcjdhlijompaa.ore

namespace Go.Proofs.Ytgpcjdhlijompaa.ore
open Go.GE
set_option linter.unusedVariables false
set_option linter.unusedSimpArgs false
set_option maxRecDepth 100000
theorem callH_pure {E : Ev} {f : FuncId} {args : List Value} {v : Value} {h : List Blk} (he : E.run f args [] = some ⟨v, [], []⟩) (ha : args.all plain = true) (hv : ∀ g, renV g dep v = some v) : callH E f args h = some ⟨v, h, [], []⟩ := by
  unfold callH
  simp only [ptr_plains ha]
  have hr : reach h 0 reachN [] [] = [] := rfl
  simp only [hr, ren_plains ha, optAll, he]
  simp [mergeB, hv, optAll]
section
variable (n X Y W H : Int) (h : List Blk)
theorem k72 (hs : small H) : callH LL 72 [iv n, bv X Y W H] h = some ⟨iv (H - 1), h, [], []⟩ := by
  obtain ⟨h1, h2⟩ := hs
  refine callH_pure (go (by decide) ?_) rfl (fun g => rfl)
  rw [run72 _ _ _ (by simp)]
  simp (disch := first | omega | decide | assumption | simp [scal]) [runOps_nil, runOps_cons, runOpsF_nil, runOpsF_cons, fstS_some, fstF_some, opStep_eq, want_none, oStep_true, oStep_false, fin_pure, fin_read, fin_alloc, fin_write, storeB, wrN, cellV, addWr, o_move, o_assign, o_pick, o_alloc, o_box, o_load, o_store, o_nilCheck, o_bin, o_un, o_extract, o_callV, o_callB, o_callI, callV_f, callV_y, callV_fc, o_makeFunc, partsA, Instr.fill, builtin_len, builtin_max2, bin_add, bin_sub, bin_mul, bin_quo, bin_rem, bin_lss, bin_leq, bin_gtr, bin_geq, bin_eql, bin_neq, un_neg, un_not, opd, opds, optAll, lk, putO, put, has, rep, nbeq, nblt, constOk, isC, ops, sub, cl, cr, co, bodyOf, thenS_normal, thenS_ret, thenS_exit, thenS_goto, afterN_normal, afterN_ret, afterN_exit, afterN_goto, condS_true, condS_false, blockS_normal, blockS_ret, blockS_exit, blockS_goto, loopS_exit, loopS_ret, plainS_some, drawS_some, fpsOk, disj, unord, mem, range', dropTo, enumT, undef, wrap_i64_id, Value.cells, mkCells, ptrTo, scal, cellsAt, rdN, endS_ret, resultsA, Option.bind_some, tupV, finish, reach, reachN, dep, ptrL_eq, ptrL, renL_eq, renL, ptrV_bool, ptrV_int, ptrV_string, ptrV_nilFunc, ptrV_nilIface, ptrV_nilPtr, ptrV_ptr, ptrV_nilSl, ptrV_sl, ptrV_iface, ptrV_agg, ptrV_tuple, ptrV_func, renV_bool, renV_int, renV_string, renV_nilFunc, renV_nilIface, renV_nilPtr, renV_ptr, renV_nilSl, renV_sl, renV_iface, renV_agg, renV_tuple, renV_func, o_fieldAddr fa_35_3 (by decide), loadA_eq ia_3, n72_1s, n72_3s, n72_4s, n72_2s, n72_0s, Try.f72]
theorem k74 (hs : small W) : callH LL 74 [iv n, bv X Y W H] h = some ⟨iv (W - 1), h, [], []⟩ := by
  obtain ⟨h1, h2⟩ := hs
  refine callH_pure (go (by decide) ?_) rfl (fun g => rfl)
  rw [run74 _ _ _ (by simp)]
  simp (disch := first | omega | decide | assumption | simp [scal]) [runOps_nil, runOps_cons, runOpsF_nil, runOpsF_cons, fstS_some, fstF_some, opStep_eq, want_none, oStep_true, oStep_false, fin_pure, fin_read, fin_alloc, fin_write, storeB, wrN, cellV, addWr, o_move, o_assign, o_pick, o_alloc, o_box, o_load, o_store, o_nilCheck, o_bin, o_un, o_extract, o_callV, o_callB, o_callI, callV_f, callV_y, callV_fc, o_makeFunc, partsA, Instr.fill, builtin_len, builtin_max2, bin_add, bin_sub, bin_mul, bin_quo, bin_rem, bin_lss, bin_leq, bin_gtr, bin_geq, bin_eql, bin_neq, un_neg, un_not, opd, opds, optAll, lk, putO, put, has, rep, nbeq, nblt, constOk, isC, ops, sub, cl, cr, co, bodyOf, thenS_normal, thenS_ret, thenS_exit, thenS_goto, afterN_normal, afterN_ret, afterN_exit, afterN_goto, condS_true, condS_false, blockS_normal, blockS_ret, blockS_exit, blockS_goto, loopS_exit, loopS_ret, plainS_some, drawS_some, fpsOk, disj, unord, mem, range', dropTo, enumT, undef, wrap_i64_id, Value.cells, mkCells, ptrTo, scal, cellsAt, rdN, endS_ret, resultsA, Option.bind_some, tupV, finish, reach, reachN, dep, ptrL_eq, ptrL, renL_eq, renL, ptrV_bool, ptrV_int, ptrV_string, ptrV_nilFunc, ptrV_nilIface, ptrV_nilPtr, ptrV_ptr, ptrV_nilSl, ptrV_sl, ptrV_iface, ptrV_agg, ptrV_tuple, ptrV_func, renV_bool, renV_int, renV_string, renV_nilFunc, renV_nilIface, renV_nilPtr, renV_ptr, renV_nilSl, renV_sl, renV_iface, renV_agg, renV_tuple, renV_func, o_fieldAddr fa_35_2 (by decide), loadA_eq ia_3, n74_1s, n74_3s, n74_4s, n74_2s, n74_0s, Try.f74]
theorem k73 (h1 : small n) (h2 : small X) (h3 : small W) : callH LL 73 [iv n, bv X Y W H] h = some ⟨.tuple #[bv X Y n H, bv (X + n) Y (W - n) H], h, [], []⟩ := by
  obtain ⟨n1, n2⟩ := h1; obtain ⟨x1, x2⟩ := h2; obtain ⟨w1, w2⟩ := h3
  refine callH_pure (go (by decide) ?_) rfl (fun g => rfl)
  rw [run73 _ _ _ (by simp)]
  simp (disch := first | omega | decide | assumption | simp [scal]) [runOps_nil, runOps_cons, runOpsF_nil, runOpsF_cons, fstS_some, fstF_some, opStep_eq, want_none, oStep_true, oStep_false, fin_pure, fin_read, fin_alloc, fin_write, storeB, wrN, cellV, addWr, o_move, o_assign, o_pick, o_alloc, o_box, o_load, o_store, o_nilCheck, o_bin, o_un, o_extract, o_callV, o_callB, o_callI, callV_f, callV_y, callV_fc, o_makeFunc, partsA, Instr.fill, builtin_len, builtin_max2, bin_add, bin_sub, bin_mul, bin_quo, bin_rem, bin_lss, bin_leq, bin_gtr, bin_geq, bin_eql, bin_neq, un_neg, un_not, opd, opds, optAll, lk, putO, put, has, rep, nbeq, nblt, constOk, isC, ops, sub, cl, cr, co, bodyOf, thenS_normal, thenS_ret, thenS_exit, thenS_goto, afterN_normal, afterN_ret, afterN_exit, afterN_goto, condS_true, condS_false, blockS_normal, blockS_ret, blockS_exit, blockS_goto, loopS_exit, loopS_ret, plainS_some, drawS_some, fpsOk, disj, unord, mem, range', dropTo, enumT, undef, wrap_i64_id, Value.cells, mkCells, ptrTo, scal, cellsAt, rdN, endS_ret, resultsA, Option.bind_some, tupV, finish, reach, reachN, dep, ptrL_eq, ptrL, renL_eq, renL, ptrV_bool, ptrV_int, ptrV_string, ptrV_nilFunc, ptrV_nilIface, ptrV_nilPtr, ptrV_ptr, ptrV_nilSl, ptrV_sl, ptrV_iface, ptrV_agg, ptrV_tuple, ptrV_func, renV_bool, renV_int, renV_string, renV_nilFunc, renV_nilIface, renV_nilPtr, renV_ptr, renV_nilSl, renV_sl, renV_iface, renV_agg, renV_tuple, renV_func, za_35, o_fieldAddr fa_35_0 (by decide), loadA_eq ia_3, o_fieldAddr fa_35_1 (by decide), o_fieldAddr fa_35_3 (by decide), o_build za_35 pl_35, o_fieldAddr fa_35_2 (by decide), sz_35, loadA_eq ia_35, n73_1s, n73_3s, n73_5s, n73_6s, n73_4s, n73_2s, n73_0s, Try.f73]
theorem k75 (h1 : small n) (h2 : small Y) (h3 : small H) : callH LL 75 [iv n, bv X Y W H] h = some ⟨.tuple #[bv X Y W n, bv X (Y + n) W (H - n)], h, [], []⟩ := by
  obtain ⟨n1, n2⟩ := h1; obtain ⟨x1, x2⟩ := h2; obtain ⟨w1, w2⟩ := h3
  refine callH_pure (go (by decide) ?_) rfl (fun g => rfl)
  rw [run75 _ _ _ (by simp)]
  simp (disch := first | omega | decide | assumption | simp [scal]) [runOps_nil, runOps_cons, runOpsF_nil, runOpsF_cons, fstS_some, fstF_some, opStep_eq, want_none, oStep_true, oStep_false, fin_pure, fin_read, fin_alloc, fin_write, storeB, wrN, cellV, addWr, o_move, o_assign, o_pick, o_alloc, o_box, o_load, o_store, o_nilCheck, o_bin, o_un, o_extract, o_callV, o_callB, o_callI, callV_f, callV_y, callV_fc, o_makeFunc, partsA, Instr.fill, builtin_len, builtin_max2, bin_add, bin_sub, bin_mul, bin_quo, bin_rem, bin_lss, bin_leq, bin_gtr, bin_geq, bin_eql, bin_neq, un_neg, un_not, opd, opds, optAll, lk, putO, put, has, rep, nbeq, nblt, constOk, isC, ops, sub, cl, cr, co, bodyOf, thenS_normal, thenS_ret, thenS_exit, thenS_goto, afterN_normal, afterN_ret, afterN_exit, afterN_goto, condS_true, condS_false, blockS_normal, blockS_ret, blockS_exit, blockS_goto, loopS_exit, loopS_ret, plainS_some, drawS_some, fpsOk, disj, unord, mem, range', dropTo, enumT, undef, wrap_i64_id, Value.cells, mkCells, ptrTo, scal, cellsAt, rdN, endS_ret, resultsA, Option.bind_some, tupV, finish, reach, reachN, dep, ptrL_eq, ptrL, renL_eq, renL, ptrV_bool, ptrV_int, ptrV_string, ptrV_nilFunc, ptrV_nilIface, ptrV_nilPtr, ptrV_ptr, ptrV_nilSl, ptrV_sl, ptrV_iface, ptrV_agg, ptrV_tuple, ptrV_func, renV_bool, renV_int, renV_string, renV_nilFunc, renV_nilIface, renV_nilPtr, renV_ptr, renV_nilSl, renV_sl, renV_iface, renV_agg, renV_tuple, renV_func, za_35, o_fieldAddr fa_35_0 (by decide), loadA_eq ia_3, o_fieldAddr fa_35_1 (by decide), o_fieldAddr fa_35_2 (by decide), o_build za_35 pl_35, o_fieldAddr fa_35_3 (by decide), sz_35, loadA_eq ia_35, n75_1s, n75_3s, n75_5s, n75_6s, n75_4s, n75_2s, n75_0s, Try.f75]
end
theorem m93p (n : Int) : methodA Try.prog 93 (iv n) "agonic/ore.parts" = some (73, iv n) := by rfl
theorem m93n (n : Int) : methodA Try.prog 93 (iv n) "agonic/ore.needles" = some (72, iv n) := by rfl
theorem m94p (n : Int) : methodA Try.prog 94 (iv n) "agonic/ore.parts" = some (75, iv n) := by rfl
theorem m94n (n : Int) : methodA Try.prog 94 (iv n) "agonic/ore.needles" = some (74, iv n) := by rfl
end Go.Proofs.Ytgpcjdhlijompaa.ore

namespace Go.Proofs.Ytgpcjdhlijompaa.ore
open Go.GE
set_option linter.unusedVariables false
set_option linter.unusedSimpArgs false
set_option maxRecDepth 100000
theorem neqI1 {t : TypeId} {v : Value} : binA Try.prog .neq 85 true (.iface t v) .nilIface = some (.bool true) := by simp [binA, eqA, Try.underlying85]
theorem neqI0 : binA Try.prog .neq 85 true .nilIface .nilIface = some (.bool false) := by simp [binA, eqA, Try.underlying85]
theorem eqlI1 {t : TypeId} {v : Value} : binA Try.prog .eql 85 true (.iface t v) .nilIface = some (.bool false) := by simp [binA, eqA, Try.underlying85]
theorem eqlI0 : binA Try.prog .eql 85 true .nilIface .nilIface = some (.bool true) := by simp [binA, eqA, Try.underlying85]
/-! ### the tables -/
def tabT : List Int := [0, 0, 0, 0, 0, 0, 0, 0, 0, 0, 0, 0, 0, 0, 0, 0, 0, 0, 0, 0, 1, 2, 2, 3, 3, 3, 3, 0, 0, 2, 4, 4, 6, 6, 6, 6, 0, 0, 2, 4, 5, 7, 7, 8, 8, 0, 0, 3, 6, 7, 10, 10, 11, 11, 0, 0, 3, 6, 7, 10, 11, 12, 12, 0, 0, 3, 6, 8, 11, 12, 14, 14, 0, 0, 3, 6, 8, 11, 12, 14, 15]
def tT (w h : Nat) : Int := tabT.getD (w * 9 + h) 0
/-- of a block of a size: the first part's size, the other's, the needles -/
def one (W H : Nat) (l : Ln) : Nat × Nat := if l.1 then (l.2, H) else (W, l.2)
def two (W H : Nat) (l : Ln) : Nat × Nat := if l.1 then (W - l.2, H) else (W, H - l.2)
def ndl (W H : Nat) (l : Ln) : Int := if l.1 then H - 1 else W - 1
def cst (W H : Nat) (l : Ln) : Int := ndl W H l + max (tT (one W H l).1 (one W H l).2) (tT (two W H l).1 (two W H l).2)
def updL (W H : Nat) (p : Int × Option Ln) (l : Ln) : Int × Option Ln := if p.2 = none ∨ cst W H l < p.1 then (cst W H l, some l) else p
def bestL (W H : Nat) : Int × Option Ln := (lineL W H).foldl (updL W H) (0, none)
def tB (W H : Nat) : Option Ln := (bestL W H).2
theorem best_all : ((List.range 9).all fun W => (List.range 9).all fun H => W == 0 || H == 0 || (decide ((bestL W H).1 = tT W H) && ((bestL W H).2.isNone == (W == 1 && H == 1)))) = true := by decide +kernel
theorem best_T {W H : Nat} (hW : W < 9) (hH : H < 9) (h1 : 1 ≤ W) (h2 : 1 ≤ H) : (bestL W H).1 = tT W H ∧ ((bestL W H).2 = none ↔ W = 1 ∧ H = 1) := by
  have := List.all_eq_true.1 (List.all_eq_true.1 best_all W (List.mem_range.2 hW)) H (List.mem_range.2 hH)
  simp only [Bool.or_eq_true, beq_iff_eq, Bool.and_eq_true, decide_eq_true_eq] at this
  rcases this with (h | h) | ⟨h3, h4⟩
  · omega
  · omega
  · refine ⟨h3, ?_⟩
    rw [← Option.isNone_iff_eq_none]
    rw [h4]
    simp
/-! ### the plan -/
abbrev Sz := Nat → Nat → Bool
def wv : Option Ln → Value
  | none => .nilIface
  | some l => lv l
def planL (S : Sz) : List Value := ((List.range 81).map fun i => if S (i / 9) (i % 9) then iv (tT (i / 9) (i % 9)) else iv 0) ++ (List.range 81).map fun i => if S (i / 9) (i % 9) then wv (tB (i / 9) (i % 9)) else .nilIface
def planB (S : Sz) : Blk := .cells (planL S) 1 false true
theorem wv_ids (o : Option Ln) : (∀ f, renV f dep (wv o) = some (wv o)) ∧ ptrV dep (wv o) = [] := by cases o <;> exact ⟨fun f => rfl, rfl⟩
theorem plan_noIds (S : Sz) : noIds (planL S) := noIds_of fun v hv => by
  unfold planL at hv
  rw [List.mem_append, List.mem_map, List.mem_map] at hv
  rcases hv with ⟨i, _, rfl⟩ | ⟨i, _, rfl⟩
  · split <;> exact ⟨fun f => rfl, rfl⟩
  · split
    · exact wv_ids _
    · exact ⟨fun f => rfl, rfl⟩
theorem ptrB_plan {S : Sz} : ptrB (planB S) = [] := noIds_ptrB (plan_noIds S)
theorem renB_plan {f : Nat → Option Nat} {S : Sz} : renB f (planB S) = some (planB S) := noIds_renB (plan_noIds S)
theorem plan_T {S : Sz} {w h : Nat} (hw : w < 9) (hh : h < 9) : (planL S)[w * 9 + h]? = some (if S w h then iv (tT w h) else iv 0) := by
  unfold planL
  rw [List.getElem?_append_left (by simp; omega), List.getElem?_map, List.getElem?_range (by omega)]
  simp only [Option.map_some]
  rw [show (w * 9 + h) / 9 = w by omega, show (w * 9 + h) % 9 = h by omega]
theorem plan_B {S : Sz} {w h : Nat} (hw : w < 9) (hh : h < 9) : (planL S)[81 + w * 9 + h]? = some (if S w h then wv (tB w h) else .nilIface) := by
  unfold planL
  rw [List.getElem?_append_right (by simp; omega), List.getElem?_map]
  rw [show 81 + w * 9 + h - ((List.range 81).map fun i => if S (i / 9) (i % 9) then iv (tT (i / 9) (i % 9)) else iv 0).length = w * 9 + h by simp; omega]
  rw [List.getElem?_range (by omega)]
  simp only [Option.map_some]
  rw [show (w * 9 + h) / 9 = w by omega, show (w * 9 + h) % 9 = h by omega]
theorem plan_len {S : Sz} : (planL S).length = 162 := by simp [planL]
def add1 (S : Sz) (W H : Nat) : Sz := fun w h => S w h || (decide (w = W) && decide (h = H))
def add (S : Sz) (W H : Nat) : Sz := fun w h => S w h || decide (1 ≤ w ∧ w ≤ W ∧ 1 ≤ h ∧ h ≤ H ∧ ¬ (w = 1 ∧ h = 1))
theorem plan_set {S : Sz} {W H : Nat} (hW : W < 9) (hH : H < 9) : ((planL S).set (W * 9 + H) (iv (tT W H))).set (81 + W * 9 + H) (wv (tB W H)) = planL (add1 S W H) := by
  apply List.ext_getElem?
  intro i
  by_cases hi : i < 162
  · by_cases h1 : i < 81
    · have e : i = (i / 9) * 9 + i % 9 := by omega
      rw [List.getElem?_set_ne (by omega)]
      rw [e, plan_T (by omega) (by omega), List.getElem?_set]
      by_cases h2 : W * 9 + H = i / 9 * 9 + i % 9
      · have hW' : W = i / 9 := by omega
        have hH' : H = i % 9 := by omega
        simp only [h2, if_true]
        rw [if_pos (by rw [plan_len]; omega)]
        simp [add1, hW', hH']
      · rw [if_neg h2, plan_T (by omega) (by omega)]
        have : ¬ (i / 9 = W ∧ i % 9 = H) := by omega
        have h3 : (decide (i / 9 = W) && decide (i % 9 = H)) = false := by simp; omega
        simp only [add1, h3, Bool.or_false]
    · have e : i = 81 + ((i - 81) / 9) * 9 + (i - 81) % 9 := by omega
      rw [e, plan_B (by omega) (by omega), List.getElem?_set]
      by_cases h2 : 81 + W * 9 + H = 81 + ((i - 81) / 9) * 9 + (i - 81) % 9
      · have hW' : W = (i - 81) / 9 := by omega
        have hH' : H = (i - 81) % 9 := by omega
        rw [if_pos h2, if_pos (by rw [List.length_set, plan_len]; omega)]
        simp [add1, hW', hH']
      · rw [if_neg h2, List.getElem?_set_ne (by omega), plan_B (by omega) (by omega)]
        have h3 : (decide ((i - 81) / 9 = W) && decide ((i - 81) % 9 = H)) = false := by simp; omega
        simp only [add1, h3, Bool.or_false]
  · rw [List.getElem?_eq_none (by simp [plan_len]; omega), List.getElem?_eq_none (by rw [plan_len]; omega)]
/-- with a size all smaller ones are known -/
structure DC (S : Sz) : Prop where
  down : ∀ w h w' h', S w h = true → 1 ≤ w' → w' ≤ w → 1 ≤ h' → h' ≤ h → ¬ (w' = 1 ∧ h' = 1) → S w' h' = true
  in' : ∀ w h, S w h = true → 1 ≤ w ∧ w ≤ 8 ∧ 1 ≤ h ∧ h ≤ 8 ∧ ¬ (w = 1 ∧ h = 1)
theorem DC.add {S : Sz} (hS : DC S) {W H : Nat} (hW : W ≤ 8) (hH : H ≤ 8) : DC (add S W H) := by
  constructor
  · intro w h w' h' h1 h2 h3 h4 h5 h6
    simp only [ore.add, Bool.or_eq_true, decide_eq_true_eq] at h1 ⊢
    rcases h1 with h1 | h1
    · exact .inl (hS.down w h w' h' h1 h2 h3 h4 h5 h6)
    · right; omega
  · intro w h h1
    simp only [ore.add, Bool.or_eq_true, decide_eq_true_eq] at h1
    rcases h1 with h1 | h1
    · exact hS.in' w h h1
    · omega
theorem add_hit {S : Sz} (hS : DC S) {W H : Nat} (h : (W = 1 ∧ H = 1) ∨ S W H = true) : add S W H = S := by
  funext w h'
  simp only [add]
  cases hs : S w h' with
  | true => rfl
  | false =>
    simp only [Bool.false_or, decide_eq_false_iff_not]
    intro hc
    rcases h with h | h
    · omega
    · have := hS.down W H w h' h hc.1 hc.2.1 hc.2.2.1 hc.2.2.2.1 hc.2.2.2.2
      rw [hs] at this; cases this
end Go.Proofs.Ytgpcjdhlijompaa.ore

namespace Go.Proofs.Ytgpcjdhlijompaa.ore
open Go.GE
set_option linter.unusedVariables false
set_option linter.unusedSimpArgs false
set_option maxRecDepth 100000
abbrev p0 : Value := .pointer (some ⟨0, 0, none⟩)
abbrev p2 : Value := .pointer (some ⟨2, 0, none⟩)
def aB : Blk := .cells [.pointer (some ⟨1, 0, none⟩)] 1 false true
def fB : Blk := .cells [.func (.func 54) #[] #[p0, p2]] 1 false true
def hit (S : Sz) (W H : Nat) : Prop := (W = 1 ∧ H = 1) ∨ S W H = true
instance (S : Sz) (W H : Nat) : Decidable (hit S W H) := inferInstanceAs (Decidable (_ ∨ _))
def wl (S : Sz) (W H : Nat) : List Nat := if hit S W H then [] else [1]
theorem wl_or (S : Sz) (W H : Nat) : wl S W H = [] ∨ wl S W H = [1] := by unfold wl; split <;> simp
def P54 (w h : Nat) : Prop := ∀ (x y : Int) (S : Sz), DC S → 0 ≤ x → x + w ≤ 1000 → 0 ≤ y → y + h ≤ 1000 →
  LL.run 54 [bv x y w h, p0, p2] [aB, planB S, fB] = some ⟨iv (tT w h), [], if hit S w h then [] else [(1, planB (add S w h))]⟩
theorem reach54 (S : Sz) (rest : List Blk) : reach (aB :: planB S :: fB :: rest) 0 reachN [0, 2] [] = [0, 1, 2] := by
  have e1 : ptrB aB = [1] := rfl
  have e2 : ptrB fB = [0, 2] := rfl
  have hm : ∀ k : Nat, 10 < k → reach (aB :: planB S :: fB :: rest) 0 k [0, 2] [] = [0, 1, 2] := by
    intro k hk
    obtain ⟨k, rfl⟩ : ∃ j, k = j + 8 := ⟨k - 8, by omega⟩
    simp [reach, mem, nblt, nbeq, e1, e2, ptrB_plan]
  exact hm reachN (by decide)
theorem k54 {w h : Nat} (hP : P54 w h) {x y : Int} {S : Sz} (hS : DC S) (hw : w ≤ 8) (hh : h ≤ 8) (h1 : 0 ≤ x) (h2 : x + w ≤ 1000) (h3 : 0 ≤ y) (h4 : y + h ≤ 1000) (rest : List Blk) :
    callH LL 54 [bv x y w h, p0, p2] (aB :: planB S :: fB :: rest) = some ⟨iv (tT w h), aB :: planB (add S w h) :: fB :: rest, [0, 1, 2], wl S w h⟩ := by
  have e := hP x y S hS h1 h2 h3 h4
  have f1 : ([bv x y w h, p0, p2] : List Value).flatMap (ptrV dep) = [0, 2] := rfl
  have f2 : optAll (renV (idx [0, 1, 2]) dep) [bv x y w h, p0, p2] = some [bv x y w h, p0, p2] := rfl
  have e1 : ∀ f : Nat → Option Nat, f 1 = some 1 → renB f aB = some aB := fun f hf => by
    show (optAll (renV f dep) _).map _ = _
    simp [optAll, renV_ptr, dep, hf, aB]
  have e2 : ∀ f : Nat → Option Nat, f 0 = some 0 → f 2 = some 2 → renB f fB = some fB := fun f h0 h2 => by
    show (optAll (renV f dep) _).map _ = _
    simp [optAll, renV_func, renFn, renL, renV_ptr, dep, h0, h2, fB]
  unfold callH
  simp only [f1, reach54, f2]
  have e1' := e1 (idx [0, 1, 2]) rfl
  have e2' := e2 (idx [0, 1, 2]) rfl rfl
  simp only [optAll, List.getElem?_cons_zero, List.getElem?_cons_succ, e1', e2', renB_plan, e]
  unfold wl
  by_cases hh' : hit S w h
  · rw [add_hit hS hh']
    simp [hh', mergeB, renV_int, dep, optAll]
  · simp [hh', mergeB, renV_int, dep, optAll, renB_plan]
end Go.Proofs.Ytgpcjdhlijompaa.ore

