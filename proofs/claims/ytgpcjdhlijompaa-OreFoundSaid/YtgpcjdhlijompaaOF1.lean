/-
  Contracts of functions of the program at the limit evaluator. No condition.
-/
import Derived.Test.YtgpcjdhlijompaaOFN
import Derived.Test.YtgpcjdhlijompaaWk
import Derived.Test.YtgpcjdhlijompaaE28
import Derived.Test.YtgpcjdhlijompaaE30
import Derived.Test.YtgpcjdhlijompaaE31
import Derived.Test.YtgpcjdhlijompaaE33
import Derived.Test.YtgpcjdhlijompaaE34
import Derived.Test.YtgpcjdhlijompaaE35
import Derived.OpenShut
namespace Go.Proofs.Ytgpcjdhlijompaa.ore
open Go.GE
set_option linter.unusedVariables false
set_option linter.unusedSimpArgs false
set_option maxRecDepth 100000
noncomputable abbrev LL : Ev := L Try.prog wk.wtab
theorem other {f : FuncId} (hf : (14 : Nat) ≠ f) (a : List Value) (h : List Blk) : wk.wtab f a h = none := tabL_other hf
theorem go {f : FuncId} {args : List Value} {h : List Blk} {r : RR} (hf : (14 : Nat) ≠ f) (he : runB Try.prog LL f args h = some r) : LL.run f args h = some r := L_run (other hf _ _) he
abbrev iv (n : Int) : Value := .int .i64 n
theorem k36 (a b c : Int) (h : List Blk) : callH LL 36 [iv a, iv b, iv c] h = some ⟨.bool (decide (a ≤ b) && decide (b ≤ c)), h, [], []⟩ := by
  refine callH_plain (go (by decide) ?_) rfl rfl
  rw [run36 _ _ _ (by simp)]
  by_cases h1 : a ≤ b <;> by_cases h2 : b ≤ c <;>
  simp (disch := first | omega | decide | assumption | simp [scal]) [runOps_nil, runOps_cons, runOpsF_nil, runOpsF_cons, fstS_some, fstF_some, opStep_eq, want_none, oStep_true, oStep_false, fin_pure, fin_read, fin_alloc, fin_write, storeB, wrN, cellV, addWr, o_move, o_assign, o_pick, o_alloc, o_box, o_load, o_store, o_nilCheck, o_bin, o_un, o_extract, o_callV, o_callB, o_callI, callV_f, callV_y, callV_fc, o_makeFunc, partsA, Instr.fill, builtin_len, builtin_max2, bin_add, bin_sub, bin_mul, bin_quo, bin_rem, bin_lss, bin_leq, bin_gtr, bin_geq, bin_eql, bin_neq, un_neg, un_not, opd, opds, optAll, lk, putO, put, has, rep, nbeq, nblt, constOk, isC, ops, sub, cl, cr, co, bodyOf, thenS_normal, thenS_ret, thenS_exit, thenS_goto, afterN_normal, afterN_ret, afterN_exit, afterN_goto, condS_true, condS_false, blockS_normal, blockS_ret, blockS_exit, blockS_goto, loopS_exit, loopS_ret, plainS_some, drawS_some, fpsOk, disj, unord, mem, range', dropTo, enumT, undef, wrap_i64_id, Value.cells, mkCells, ptrTo, scal, cellsAt, rdN, endS_ret, resultsA, Option.bind_some, tupV, finish, reach, reachN, dep, ptrL_eq, ptrL, renL_eq, renL, ptrV_bool, ptrV_int, ptrV_string, ptrV_nilFunc, ptrV_nilIface, ptrV_nilPtr, ptrV_ptr, ptrV_nilSl, ptrV_sl, ptrV_iface, ptrV_agg, ptrV_tuple, ptrV_func, renV_bool, renV_int, renV_string, renV_nilFunc, renV_nilIface, renV_nilPtr, renV_ptr, renV_nilSl, renV_sl, renV_iface, renV_agg, renV_tuple, renV_func, n36_1s, n36_3s, n36_4s, n36_2s, n36_0s, want_some q36_3g3, Try.f36, h1, h2]
def turnS (a b : Int) : Int := 1800 - (a - b + 5400) % 3600
def isN (n : Int) : Prop := 0 ≤ n ∧ n < 3600
theorem k37 (a b : Int) (ha : isN a) (hb : isN b) (h : List Blk) : callH LL 37 [iv a, iv b] h = some ⟨iv (turnS a b), h, [], []⟩ := by
  obtain ⟨h1, h2⟩ := ha; obtain ⟨h3, h4⟩ := hb
  refine callH_plain (go (by decide) ?_) rfl rfl
  have e : Int.tmod (a - b + 1800 + 3600) 3600 = (a - b + 5400) % 3600 := by
    rw [Int.tmod_eq_emod_of_nonneg (by omega)]; congr 1; omega
  rw [run37 _ _ _ (by simp)]
  simp (disch := first | omega | decide | assumption | simp [scal]) [runOps_nil, runOps_cons, runOpsF_nil, runOpsF_cons, fstS_some, fstF_some, opStep_eq, want_none, oStep_true, oStep_false, fin_pure, fin_read, fin_alloc, fin_write, storeB, wrN, cellV, addWr, o_move, o_assign, o_pick, o_alloc, o_box, o_load, o_store, o_nilCheck, o_bin, o_un, o_extract, o_callV, o_callB, o_callI, callV_f, callV_y, callV_fc, o_makeFunc, partsA, Instr.fill, builtin_len, builtin_max2, bin_add, bin_sub, bin_mul, bin_quo, bin_rem, bin_lss, bin_leq, bin_gtr, bin_geq, bin_eql, bin_neq, un_neg, un_not, opd, opds, optAll, lk, putO, put, has, rep, nbeq, nblt, constOk, isC, ops, sub, cl, cr, co, bodyOf, thenS_normal, thenS_ret, thenS_exit, thenS_goto, afterN_normal, afterN_ret, afterN_exit, afterN_goto, condS_true, condS_false, blockS_normal, blockS_ret, blockS_exit, blockS_goto, loopS_exit, loopS_ret, plainS_some, drawS_some, fpsOk, disj, unord, mem, range', dropTo, enumT, undef, wrap_i64_id, Value.cells, mkCells, ptrTo, scal, cellsAt, rdN, endS_ret, resultsA, Option.bind_some, tupV, finish, reach, reachN, dep, ptrL_eq, ptrL, renL_eq, renL, ptrV_bool, ptrV_int, ptrV_string, ptrV_nilFunc, ptrV_nilIface, ptrV_nilPtr, ptrV_ptr, ptrV_nilSl, ptrV_sl, ptrV_iface, ptrV_agg, ptrV_tuple, ptrV_func, renV_bool, renV_int, renV_string, renV_nilFunc, renV_nilIface, renV_nilPtr, renV_ptr, renV_nilSl, renV_sl, renV_iface, renV_agg, renV_tuple, renV_func, n37_1s, n37_3s, n37_4s, n37_2s, n37_0s, Try.f37, e, turnS]
end Go.Proofs.Ytgpcjdhlijompaa.ore
namespace Go.Proofs.Ytgpcjdhlijompaa.ore
open Go.GE
set_option linter.unusedVariables false
set_option linter.unusedSimpArgs false
set_option maxRecDepth 100000
/-- a field's value: its needles lie in a block b, from off on -/
abbrev fv (w hh o : Int) (b off n c : Nat) : Value := .agg #[iv w, iv hh, iv o, .slice (some ⟨b, off, none⟩) n c]
def small (x : Int) : Prop := -100000 ≤ x ∧ x ≤ 100000
theorem ren_fv {w hh o : Int} {b off n c : Nat} {vs : List Value} (hv : vs.all scal = true) : optAll (renV (idx [b]) dep) (fv w hh o b off n c :: vs) = some (fv w hh o 0 off n c :: vs) := by
  have e : renV (idx [b]) dep (fv w hh o b off n c) = some (fv w hh o 0 off n c) := by
    simp [renV, dep, optAll, idx, nbeq]
  simp only [optAll, e]
  simp only [dep, optAll_scal (d := 5) hv]
theorem ptr_fv {w hh o : Int} {b off n c : Nat} {vs : List Value} (hv : vs.all scal = true) : (fv w hh o b off n c :: vs).flatMap (ptrV dep) = [b] := by
  simp only [List.flatMap_cons, ptrV_scal hv, List.append_nil]
  simp [ptrV, dep]
theorem callF {f : FuncId} {w hh o : Int} {b off n c : Nat} {vs : List Value} {v : Value} {h : List Blk} {cs : List Value} {own : Bool} (hb : h[b]? = some (.cells cs 1 true own)) (hv : vs.all scal = true)
    (he : LL.run f (fv w hh o 0 off n c :: vs) [.cells cs 1 true own] = some ⟨v, [], []⟩) (hp : plain v = true) : callH LL f (fv w hh o b off n c :: vs) h = some ⟨v, h, [b], []⟩ :=
  callH_one (ptr_fv hv) hb (ren_fv hv) he hp
theorem k40 (w hh o : Int) (b off n c : Nat) (t : Int) {h : List Blk} {cs : List Value} {own : Bool} (hb : h[b]? = some (.cells cs 1 true own)) (ho : small o) (ht : small t) :
    callH LL 40 [fv w hh o b off n c, iv t] h = some ⟨.bool (decide (max t (-t) + 2 * o < 1800)), h, [b], []⟩ := by
  obtain ⟨h1, h2⟩ := ho; obtain ⟨h3, h4⟩ := ht
  have e : (if t < -t then -t else t) = max t (-t) := by omega
  refine callF hb rfl (go (by decide) ?_) rfl
  rw [run40 _ _ _ (by simp)]
  simp (disch := first | omega | decide | assumption | simp [scal]) [runOps_nil, runOps_cons, runOpsF_nil, runOpsF_cons, fstS_some, fstF_some, opStep_eq, want_none, oStep_true, oStep_false, fin_pure, fin_read, fin_alloc, fin_write, storeB, wrN, cellV, addWr, o_move, o_assign, o_pick, o_alloc, o_box, o_load, o_store, o_nilCheck, o_bin, o_un, o_extract, o_callV, o_callB, o_callI, callV_f, callV_y, callV_fc, o_makeFunc, partsA, Instr.fill, builtin_len, builtin_max2, bin_add, bin_sub, bin_mul, bin_quo, bin_rem, bin_lss, bin_leq, bin_gtr, bin_geq, bin_eql, bin_neq, un_neg, un_not, opd, opds, optAll, lk, putO, put, has, rep, nbeq, nblt, constOk, isC, ops, sub, cl, cr, co, bodyOf, thenS_normal, thenS_ret, thenS_exit, thenS_goto, afterN_normal, afterN_ret, afterN_exit, afterN_goto, condS_true, condS_false, blockS_normal, blockS_ret, blockS_exit, blockS_goto, loopS_exit, loopS_ret, plainS_some, drawS_some, fpsOk, disj, unord, mem, range', dropTo, enumT, undef, wrap_i64_id, Value.cells, mkCells, ptrTo, scal, cellsAt, rdN, endS_ret, resultsA, Option.bind_some, tupV, finish, reach, reachN, dep, ptrL_eq, ptrL, renL_eq, renL, ptrV_bool, ptrV_int, ptrV_string, ptrV_nilFunc, ptrV_nilIface, ptrV_nilPtr, ptrV_ptr, ptrV_nilSl, ptrV_sl, ptrV_iface, ptrV_agg, ptrV_tuple, ptrV_func, renV_bool, renV_int, renV_string, renV_nilFunc, renV_nilIface, renV_nilPtr, renV_ptr, renV_nilSl, renV_sl, renV_iface, renV_agg, renV_tuple, renV_func, o_fieldAddr fa_24_2 (by decide), loadA_eq ia_3, n40_1s, n40_3s, n40_4s, n40_2s, n40_0s, Try.f40, e]
theorem k41 (w hh o : Int) (b off n c : Nat) (x y : Int) (i : Nat) {v : Int} {h : List Blk} {cs : List Value} {own : Bool} (hb : h[b]? = some (.cells cs 1 true own)) (h1 : small x) (h2 : small y) (h3 : 0 ≤ w) (h4 : w ≤ 9) (hi : y * w + x = i) (hn : i < n) (hc : cs[off + i]? = some (iv v)) :
    callH LL 41 [fv w hh o b off n c, iv x, iv y] h = some ⟨iv v, h, [b], []⟩ := by
  obtain ⟨x1, x2⟩ := h1; obtain ⟨y1, y2⟩ := h2
  have m1 : -900000 ≤ y * w := by have := Int.mul_le_mul_of_nonneg_left h4 (show (0:Int) ≤ 100000 by omega); have := Int.mul_le_mul_of_nonneg_right y1 h3; omega
  have m2 : y * w ≤ 900000 := by have := Int.mul_le_mul_of_nonneg_right y2 h3; omega
  refine callF hb rfl (go (by decide) ?_) rfl
  rw [run41 _ _ _ (by simp)]
  simp (disch := first | omega | decide | assumption | simp [scal]) [runOps_nil, runOps_cons, runOpsF_nil, runOpsF_cons, fstS_some, fstF_some, opStep_eq, want_none, oStep_true, oStep_false, fin_pure, fin_read, fin_alloc, fin_write, storeB, wrN, cellV, addWr, o_move, o_assign, o_pick, o_alloc, o_box, o_load, o_store, o_nilCheck, o_bin, o_un, o_extract, o_callV, o_callB, o_callI, callV_f, callV_y, callV_fc, o_makeFunc, partsA, Instr.fill, builtin_len, builtin_max2, bin_add, bin_sub, bin_mul, bin_quo, bin_rem, bin_lss, bin_leq, bin_gtr, bin_geq, bin_eql, bin_neq, un_neg, un_not, opd, opds, optAll, lk, putO, put, has, rep, nbeq, nblt, constOk, isC, ops, sub, cl, cr, co, bodyOf, thenS_normal, thenS_ret, thenS_exit, thenS_goto, afterN_normal, afterN_ret, afterN_exit, afterN_goto, condS_true, condS_false, blockS_normal, blockS_ret, blockS_exit, blockS_goto, loopS_exit, loopS_ret, plainS_some, drawS_some, fpsOk, disj, unord, mem, range', dropTo, enumT, undef, wrap_i64_id, Value.cells, mkCells, ptrTo, scal, cellsAt, rdN, endS_ret, resultsA, Option.bind_some, tupV, finish, reach, reachN, dep, ptrL_eq, ptrL, renL_eq, renL, ptrV_bool, ptrV_int, ptrV_string, ptrV_nilFunc, ptrV_nilIface, ptrV_nilPtr, ptrV_ptr, ptrV_nilSl, ptrV_sl, ptrV_iface, ptrV_agg, ptrV_tuple, ptrV_func, renV_bool, renV_int, renV_string, renV_nilFunc, renV_nilIface, renV_nilPtr, renV_ptr, renV_nilSl, renV_sl, renV_iface, renV_agg, renV_tuple, renV_func, o_fieldAddr fa_24_3 (by decide), loadA_eq ia_22, o_fieldAddr fa_24_0 (by decide), loadA_eq ia_3, o_indexAddrS es_22, n41_1s, n41_3s, n41_4s, n41_2s, n41_0s, Try.f41, hi, hn, hc]
theorem turnS_small (a b : Int) : -1800 < turnS a b ∧ turnS a b ≤ 1800 := by unfold turnS; omega
end Go.Proofs.Ytgpcjdhlijompaa.ore
namespace Go.Proofs.Ytgpcjdhlijompaa.ore
open Go.GE
set_option linter.unusedVariables false
set_option linter.unusedSimpArgs false
set_option maxRecDepth 100000
theorem cast1 (i : Nat) : ((i + 1 : Nat) : Int) = (i : Int) + 1 := rfl
section
variable (w hh o : Int) (off n c : Nat) (cs : List Value) (own : Bool) (nd : Nat → Int)
def s17 (i : Int) : Tm := [(39, iv i), (38, iv n), (37, .slice (some ⟨0, off, none⟩) n c), (36, .pointer (some ⟨1, 3, none⟩)), (2, iv 0), (1, .pointer (some ⟨1, 0, none⟩)), (0, fv w hh o 0 off n c)]
def z17 (i : Int) : Tm := [(50, iv i), (49, iv n), (48, .slice (some ⟨0, off, none⟩) n c), (47, .pointer (some ⟨1, 3, none⟩)), (39, iv n), (38, iv n), (37, .slice (some ⟨0, off, none⟩) n c), (36, .pointer (some ⟨1, 3, none⟩)), (2, iv 0), (1, .pointer (some ⟨1, 0, none⟩)), (0, fv w hh o 0 off n c)]
def H17 : List Blk := [.cells cs 1 true own, .cells [iv w, iv hh, iv o, .slice (some ⟨0, off, none⟩) n c] 1 false true]
theorem l17a (hcs : ∀ i, i < n → cs[off + i]? = some (iv (nd i))) (hn : n ≤ 81) : ∀ k i : Nat, i + k = n → (∀ j, i ≤ j → j < n → isN (nd j)) →
    codeB Try.prog LL ⟨17, 94, 1, none⟩ n17_21 ⟨s17 w hh o off n c i, H17 w hh o off n c cs own, []⟩ = some (.exit 1, ⟨(40, .bool false) :: s17 w hh o off n c n, H17 w hh o off n c cs own, []⟩) := by
  intro k
  induction k with
  | zero =>
    intro i hi hall
    obtain rfl : i = n := by omega
    rw [n17_21s]
    simp only [s17, H17]
    simp (disch := first | omega | decide | assumption | simp [scal]) [runOps_nil, runOps_cons, runOpsF_nil, runOpsF_cons, fstS_some, fstF_some, opStep_eq, want_none, oStep_true, oStep_false, fin_pure, fin_read, fin_alloc, fin_write, storeB, wrN, cellV, addWr, o_move, o_assign, o_pick, o_alloc, o_box, o_load, o_store, o_nilCheck, o_bin, o_un, o_extract, o_callV, o_callB, o_callI, callV_f, callV_y, callV_fc, o_makeFunc, partsA, Instr.fill, builtin_len, builtin_max2, bin_add, bin_sub, bin_mul, bin_quo, bin_rem, bin_lss, bin_leq, bin_gtr, bin_geq, bin_eql, bin_neq, un_neg, un_not, opd, opds, optAll, lk, putO, put, has, rep, nbeq, nblt, constOk, isC, ops, sub, cl, cr, co, bodyOf, thenS_normal, thenS_ret, thenS_exit, thenS_goto, afterN_normal, afterN_ret, afterN_exit, afterN_goto, condS_true, condS_false, blockS_normal, blockS_ret, blockS_exit, blockS_goto, loopS_exit, loopS_ret, plainS_some, drawS_some, fpsOk, disj, unord, mem, range', dropTo, enumT, undef, wrap_i64_id, Value.cells, mkCells, ptrTo, scal, cellsAt, rdN, endS_ret, resultsA, Option.bind_some, tupV, finish, reach, reachN, dep, ptrL_eq, ptrL, renL_eq, renL, ptrV_bool, ptrV_int, ptrV_string, ptrV_nilFunc, ptrV_nilIface, ptrV_nilPtr, ptrV_ptr, ptrV_nilSl, ptrV_sl, ptrV_iface, ptrV_agg, ptrV_tuple, ptrV_func, renV_bool, renV_int, renV_string, renV_nilFunc, renV_nilIface, renV_nilPtr, renV_ptr, renV_nilSl, renV_sl, renV_iface, renV_agg, renV_tuple, renV_func, o_fieldAddr fa_24_0 (by decide), loadA_eq ia_3, o_fieldAddr fa_24_1 (by decide), o_fieldAddr fa_24_2 (by decide), o_fieldAddr fa_24_3 (by decide), loadA_eq ia_22, lenA_sl lk_22, o_indexAddrS es_22, loadA_eq ia_24, n17_1s, n17_5s, n17_8s, n17_9s, n17_7s, n17_11s, n17_14s, n17_15s, n17_13s, n17_16s, n17_12s, n17_10s, n17_6s, n17_4s, n17_3s, n17_19s, n17_23s, n17_26s, n17_27s, n17_25s, n17_31s, n17_33s, n17_36s, n17_37s, n17_35s, n17_38s, n17_34s, n17_32s, n17_30s, n17_29s, n17_39s, n17_28s, n17_24s, n17_22s, n17_20s, n17_18s, n17_42s, n17_46s, n17_49s, n17_50s, n17_48s, n17_54s, n17_56s, n17_58s, n17_61s, n17_62s, n17_60s, n17_63s, n17_59s, n17_57s, n17_55s, n17_53s, n17_52s, n17_64s, n17_51s, n17_47s, n17_45s, n17_43s, n17_41s, n17_66s, n17_67s, n17_65s, n17_40s, n17_17s, n17_2s, n17_0s, want_some q17_5g4, want_some q17_5g10, want_some q17_58g2, want_some q17_58g14, want_some q17_58g17, Try.f17]
  | succ k ih =>
    intro i hi hall
    have e1 : i < n := by omega
    have e2 := hcs i e1
    have e3 := hall i (Nat.le_refl _) e1
    obtain ⟨e4, e5⟩ := e3
    have e6 : nd i ≤ 3599 := by omega
    have := L_code (ih (i + 1) (by omega) fun j h1 h2 => hall j (by omega) h2)
    rw [n17_21s]
    simp only [s17, H17, cast1] at this ⊢
    simp (disch := first | omega | decide | assumption | simp [scal]) [runOps_nil, runOps_cons, runOpsF_nil, runOpsF_cons, fstS_some, fstF_some, opStep_eq, want_none, oStep_true, oStep_false, fin_pure, fin_read, fin_alloc, fin_write, storeB, wrN, cellV, addWr, o_move, o_assign, o_pick, o_alloc, o_box, o_load, o_store, o_nilCheck, o_bin, o_un, o_extract, o_callV, o_callB, o_callI, callV_f, callV_y, callV_fc, o_makeFunc, partsA, Instr.fill, builtin_len, builtin_max2, bin_add, bin_sub, bin_mul, bin_quo, bin_rem, bin_lss, bin_leq, bin_gtr, bin_geq, bin_eql, bin_neq, un_neg, un_not, opd, opds, optAll, lk, putO, put, has, rep, nbeq, nblt, constOk, isC, ops, sub, cl, cr, co, bodyOf, thenS_normal, thenS_ret, thenS_exit, thenS_goto, afterN_normal, afterN_ret, afterN_exit, afterN_goto, condS_true, condS_false, blockS_normal, blockS_ret, blockS_exit, blockS_goto, loopS_exit, loopS_ret, plainS_some, drawS_some, fpsOk, disj, unord, mem, range', dropTo, enumT, undef, wrap_i64_id, Value.cells, mkCells, ptrTo, scal, cellsAt, rdN, endS_ret, resultsA, Option.bind_some, tupV, finish, reach, reachN, dep, ptrL_eq, ptrL, renL_eq, renL, ptrV_bool, ptrV_int, ptrV_string, ptrV_nilFunc, ptrV_nilIface, ptrV_nilPtr, ptrV_ptr, ptrV_nilSl, ptrV_sl, ptrV_iface, ptrV_agg, ptrV_tuple, ptrV_func, renV_bool, renV_int, renV_string, renV_nilFunc, renV_nilIface, renV_nilPtr, renV_ptr, renV_nilSl, renV_sl, renV_iface, renV_agg, renV_tuple, renV_func, o_fieldAddr fa_24_0 (by decide), loadA_eq ia_3, o_fieldAddr fa_24_1 (by decide), o_fieldAddr fa_24_2 (by decide), o_fieldAddr fa_24_3 (by decide), loadA_eq ia_22, lenA_sl lk_22, o_indexAddrS es_22, loadA_eq ia_24, n17_1s, n17_5s, n17_8s, n17_9s, n17_7s, n17_11s, n17_14s, n17_15s, n17_13s, n17_16s, n17_12s, n17_10s, n17_6s, n17_4s, n17_3s, n17_19s, n17_23s, n17_26s, n17_27s, n17_25s, n17_31s, n17_33s, n17_36s, n17_37s, n17_35s, n17_38s, n17_34s, n17_32s, n17_30s, n17_29s, n17_39s, n17_28s, n17_24s, n17_22s, n17_20s, n17_18s, n17_42s, n17_46s, n17_49s, n17_50s, n17_48s, n17_54s, n17_56s, n17_58s, n17_61s, n17_62s, n17_60s, n17_63s, n17_59s, n17_57s, n17_55s, n17_53s, n17_52s, n17_64s, n17_51s, n17_47s, n17_45s, n17_43s, n17_41s, n17_66s, n17_67s, n17_65s, n17_40s, n17_17s, n17_2s, n17_0s, want_some q17_5g4, want_some q17_5g10, want_some q17_58g2, want_some q17_58g14, want_some q17_58g17, Try.f17, k36, e1, e2, e4, e6, loopS_same, this]
theorem l17b (hcs : ∀ i, i < n → cs[off + i]? = some (iv (nd i))) (hn : n ≤ 81) : ∀ k i : Nat, i + k = n → (∃ j, i ≤ j ∧ j < n ∧ ¬ isN (nd j)) →
    ∃ σ, lk σ 2 = some (iv 1) ∧ codeB Try.prog LL ⟨17, 94, 1, none⟩ n17_21 ⟨s17 w hh o off n c i, H17 w hh o off n c cs own, []⟩ = some (.ret, ⟨σ, H17 w hh o off n c cs own, []⟩) := by
  intro k
  induction k with
  | zero =>
    intro i hi ⟨j, h1, h2, _⟩
    omega
  | succ k ih =>
    intro i hi hex
    have e1 : i < n := by omega
    have e2 := hcs i e1
    rw [n17_21s]
    by_cases e3 : isN (nd i)
    · obtain ⟨e4, e5⟩ := e3
      have e6 : nd i ≤ 3599 := by omega
      obtain ⟨σ, hs, this⟩ := ih (i + 1) (by omega) (by
        obtain ⟨j, h1, h2, h3⟩ := hex
        refine ⟨j, ?_, h2, h3⟩
        rcases Nat.eq_or_lt_of_le h1 with rfl | h
        · exact absurd ⟨e4, e5⟩ h3
        · exact h)
      refine ⟨σ, hs, ?_⟩
      have this := L_code this
      simp only [s17, H17, cast1] at this ⊢
      simp (disch := first | omega | decide | assumption | simp [scal]) [runOps_nil, runOps_cons, runOpsF_nil, runOpsF_cons, fstS_some, fstF_some, opStep_eq, want_none, oStep_true, oStep_false, fin_pure, fin_read, fin_alloc, fin_write, storeB, wrN, cellV, addWr, o_move, o_assign, o_pick, o_alloc, o_box, o_load, o_store, o_nilCheck, o_bin, o_un, o_extract, o_callV, o_callB, o_callI, callV_f, callV_y, callV_fc, o_makeFunc, partsA, Instr.fill, builtin_len, builtin_max2, bin_add, bin_sub, bin_mul, bin_quo, bin_rem, bin_lss, bin_leq, bin_gtr, bin_geq, bin_eql, bin_neq, un_neg, un_not, opd, opds, optAll, lk, putO, put, has, rep, nbeq, nblt, constOk, isC, ops, sub, cl, cr, co, bodyOf, thenS_normal, thenS_ret, thenS_exit, thenS_goto, afterN_normal, afterN_ret, afterN_exit, afterN_goto, condS_true, condS_false, blockS_normal, blockS_ret, blockS_exit, blockS_goto, loopS_exit, loopS_ret, plainS_some, drawS_some, fpsOk, disj, unord, mem, range', dropTo, enumT, undef, wrap_i64_id, Value.cells, mkCells, ptrTo, scal, cellsAt, rdN, endS_ret, resultsA, Option.bind_some, tupV, finish, reach, reachN, dep, ptrL_eq, ptrL, renL_eq, renL, ptrV_bool, ptrV_int, ptrV_string, ptrV_nilFunc, ptrV_nilIface, ptrV_nilPtr, ptrV_ptr, ptrV_nilSl, ptrV_sl, ptrV_iface, ptrV_agg, ptrV_tuple, ptrV_func, renV_bool, renV_int, renV_string, renV_nilFunc, renV_nilIface, renV_nilPtr, renV_ptr, renV_nilSl, renV_sl, renV_iface, renV_agg, renV_tuple, renV_func, o_fieldAddr fa_24_0 (by decide), loadA_eq ia_3, o_fieldAddr fa_24_1 (by decide), o_fieldAddr fa_24_2 (by decide), o_fieldAddr fa_24_3 (by decide), loadA_eq ia_22, lenA_sl lk_22, o_indexAddrS es_22, loadA_eq ia_24, n17_1s, n17_5s, n17_8s, n17_9s, n17_7s, n17_11s, n17_14s, n17_15s, n17_13s, n17_16s, n17_12s, n17_10s, n17_6s, n17_4s, n17_3s, n17_19s, n17_23s, n17_26s, n17_27s, n17_25s, n17_31s, n17_33s, n17_36s, n17_37s, n17_35s, n17_38s, n17_34s, n17_32s, n17_30s, n17_29s, n17_39s, n17_28s, n17_24s, n17_22s, n17_20s, n17_18s, n17_42s, n17_46s, n17_49s, n17_50s, n17_48s, n17_54s, n17_56s, n17_58s, n17_61s, n17_62s, n17_60s, n17_63s, n17_59s, n17_57s, n17_55s, n17_53s, n17_52s, n17_64s, n17_51s, n17_47s, n17_45s, n17_43s, n17_41s, n17_66s, n17_67s, n17_65s, n17_40s, n17_17s, n17_2s, n17_0s, want_some q17_5g4, want_some q17_5g10, want_some q17_58g2, want_some q17_58g14, want_some q17_58g17, Try.f17, k36, e1, e2, e4, e6, loopS_same, this]
    · have e4 : (decide (0 ≤ nd i) && decide (nd i ≤ 3599)) = false := by
        simp only [isN] at e3; simp; omega
      simp only [s17, H17]
      simp (disch := first | omega | decide | assumption | simp [scal]) [runOps_nil, runOps_cons, runOpsF_nil, runOpsF_cons, fstS_some, fstF_some, opStep_eq, want_none, oStep_true, oStep_false, fin_pure, fin_read, fin_alloc, fin_write, storeB, wrN, cellV, addWr, o_move, o_assign, o_pick, o_alloc, o_box, o_load, o_store, o_nilCheck, o_bin, o_un, o_extract, o_callV, o_callB, o_callI, callV_f, callV_y, callV_fc, o_makeFunc, partsA, Instr.fill, builtin_len, builtin_max2, bin_add, bin_sub, bin_mul, bin_quo, bin_rem, bin_lss, bin_leq, bin_gtr, bin_geq, bin_eql, bin_neq, un_neg, un_not, opd, opds, optAll, lk, putO, put, has, rep, nbeq, nblt, constOk, isC, ops, sub, cl, cr, co, bodyOf, thenS_normal, thenS_ret, thenS_exit, thenS_goto, afterN_normal, afterN_ret, afterN_exit, afterN_goto, condS_true, condS_false, blockS_normal, blockS_ret, blockS_exit, blockS_goto, loopS_exit, loopS_ret, plainS_some, drawS_some, fpsOk, disj, unord, mem, range', dropTo, enumT, undef, wrap_i64_id, Value.cells, mkCells, ptrTo, scal, cellsAt, rdN, endS_ret, resultsA, Option.bind_some, tupV, finish, reach, reachN, dep, ptrL_eq, ptrL, renL_eq, renL, ptrV_bool, ptrV_int, ptrV_string, ptrV_nilFunc, ptrV_nilIface, ptrV_nilPtr, ptrV_ptr, ptrV_nilSl, ptrV_sl, ptrV_iface, ptrV_agg, ptrV_tuple, ptrV_func, renV_bool, renV_int, renV_string, renV_nilFunc, renV_nilIface, renV_nilPtr, renV_ptr, renV_nilSl, renV_sl, renV_iface, renV_agg, renV_tuple, renV_func, o_fieldAddr fa_24_0 (by decide), loadA_eq ia_3, o_fieldAddr fa_24_1 (by decide), o_fieldAddr fa_24_2 (by decide), o_fieldAddr fa_24_3 (by decide), loadA_eq ia_22, lenA_sl lk_22, o_indexAddrS es_22, loadA_eq ia_24, n17_1s, n17_5s, n17_8s, n17_9s, n17_7s, n17_11s, n17_14s, n17_15s, n17_13s, n17_16s, n17_12s, n17_10s, n17_6s, n17_4s, n17_3s, n17_19s, n17_23s, n17_26s, n17_27s, n17_25s, n17_31s, n17_33s, n17_36s, n17_37s, n17_35s, n17_38s, n17_34s, n17_32s, n17_30s, n17_29s, n17_39s, n17_28s, n17_24s, n17_22s, n17_20s, n17_18s, n17_42s, n17_46s, n17_49s, n17_50s, n17_48s, n17_54s, n17_56s, n17_58s, n17_61s, n17_62s, n17_60s, n17_63s, n17_59s, n17_57s, n17_55s, n17_53s, n17_52s, n17_64s, n17_51s, n17_47s, n17_45s, n17_43s, n17_41s, n17_66s, n17_67s, n17_65s, n17_40s, n17_17s, n17_2s, n17_0s, want_some q17_5g4, want_some q17_5g10, want_some q17_58g2, want_some q17_58g14, want_some q17_58g17, Try.f17, k36, e1, e2, e4, loopS_same]
end
end Go.Proofs.Ytgpcjdhlijompaa.ore
namespace Go.Proofs.Ytgpcjdhlijompaa.ore
open Go.GE
set_option linter.unusedVariables false
set_option linter.unusedSimpArgs false
set_option maxRecDepth 100000
/-- less than half a turn in every truth -/
def sureS (o t : Int) : Prop := max t (-t) + 2 * o < 1800
instance (o t : Int) : Decidable (sureS o t) := inferInstanceAs (Decidable (_ < _))
def badL (W : Nat) (o : Int) (nd : Nat → Int) (i : Nat) : Prop := 0 < i % W ∧ ¬ sureS o (turnS (nd i) (nd (i - 1)))
def badU (W : Nat) (o : Int) (nd : Nat → Int) (i : Nat) : Prop := 0 < i / W ∧ ¬ sureS o (turnS (nd i) (nd (i - W)))
def badAt (W : Nat) (o : Int) (nd : Nat → Int) (i : Nat) : Prop := badL W o nd i ∨ badU W o nd i
theorem left_idx {W i x y : Nat} (hx : i % W = x) (hy : i / W = y) (x0 : 0 < x) : (y : Int) * W + (x - 1) = ((i - 1 : Nat) : Int) := by
  have em := Nat.div_add_mod i W
  rw [hx, hy] at em
  have : ((W * y : Nat) : Int) = (W : Int) * y := by simp
  rw [Int.mul_comm]
  omega
theorem up_idx {W i x y : Nat} (hx : i % W = x) (hy : i / W = y) (y0 : 0 < y) : ((y : Int) - 1) * W + x = ((i - W : Nat) : Int) := by
  have em := Nat.div_add_mod i W
  rw [hx, hy] at em
  obtain ⟨z, rfl⟩ : ∃ z, y = z + 1 := ⟨y - 1, by omega⟩
  have h1 : W * (z + 1) = W * z + W := by rw [Nat.mul_add, Nat.mul_one]
  have h2 : ((W * z : Nat) : Int) = (W : Int) * z := by simp
  have h3 : (((z + 1 : Nat) : Int) - 1) * W = (W : Int) * z := by rw [show (((z + 1 : Nat) : Int) - 1) = (z : Int) by omega, Int.mul_comm]
  rw [h3]
  omega
section
variable (W : Nat) (hh o : Int) (off n c : Nat) (cs : List Value) (own : Bool) (nd : Nat → Int)
theorem l17c (hcs : ∀ i, i < n → cs[off + i]? = some (iv (nd i))) (hall : ∀ i, i < n → isN (nd i)) (hn : n ≤ 81) (hW : 2 ≤ W ∧ W ≤ 9) (ho : 0 ≤ o ∧ o ≤ 400) : ∀ k i : Nat, i + k = n → (∀ j, i ≤ j → j < n → ¬ badAt W o nd j) →
    codeB Try.prog LL ⟨17, 94, 1, none⟩ n17_44 ⟨z17 W hh o off n c i, H17 W hh o off n c cs own, []⟩ = some (.exit 3, ⟨(51, .bool false) :: z17 W hh o off n c n, H17 W hh o off n c cs own, []⟩) := by
  intro k
  induction k with
  | zero =>
    intro i hi _
    obtain rfl : i = n := by omega
    rw [n17_44s]
    simp only [z17, H17]
    simp (disch := first | omega | decide | assumption | simp [scal]) [runOps_nil, runOps_cons, runOpsF_nil, runOpsF_cons, fstS_some, fstF_some, opStep_eq, want_none, oStep_true, oStep_false, fin_pure, fin_read, fin_alloc, fin_write, storeB, wrN, cellV, addWr, o_move, o_assign, o_pick, o_alloc, o_box, o_load, o_store, o_nilCheck, o_bin, o_un, o_extract, o_callV, o_callB, o_callI, callV_f, callV_y, callV_fc, o_makeFunc, partsA, Instr.fill, builtin_len, builtin_max2, bin_add, bin_sub, bin_mul, bin_quo, bin_rem, bin_lss, bin_leq, bin_gtr, bin_geq, bin_eql, bin_neq, un_neg, un_not, opd, opds, optAll, lk, putO, put, has, rep, nbeq, nblt, constOk, isC, ops, sub, cl, cr, co, bodyOf, thenS_normal, thenS_ret, thenS_exit, thenS_goto, afterN_normal, afterN_ret, afterN_exit, afterN_goto, condS_true, condS_false, blockS_normal, blockS_ret, blockS_exit, blockS_goto, loopS_exit, loopS_ret, plainS_some, drawS_some, fpsOk, disj, unord, mem, range', dropTo, enumT, undef, wrap_i64_id, Value.cells, mkCells, ptrTo, scal, cellsAt, rdN, endS_ret, resultsA, Option.bind_some, tupV, finish, reach, reachN, dep, ptrL_eq, ptrL, renL_eq, renL, ptrV_bool, ptrV_int, ptrV_string, ptrV_nilFunc, ptrV_nilIface, ptrV_nilPtr, ptrV_ptr, ptrV_nilSl, ptrV_sl, ptrV_iface, ptrV_agg, ptrV_tuple, ptrV_func, renV_bool, renV_int, renV_string, renV_nilFunc, renV_nilIface, renV_nilPtr, renV_ptr, renV_nilSl, renV_sl, renV_iface, renV_agg, renV_tuple, renV_func, o_fieldAddr fa_24_0 (by decide), loadA_eq ia_3, o_fieldAddr fa_24_1 (by decide), o_fieldAddr fa_24_2 (by decide), o_fieldAddr fa_24_3 (by decide), loadA_eq ia_22, lenA_sl lk_22, o_indexAddrS es_22, loadA_eq ia_24, n17_1s, n17_5s, n17_8s, n17_9s, n17_7s, n17_11s, n17_14s, n17_15s, n17_13s, n17_16s, n17_12s, n17_10s, n17_6s, n17_4s, n17_3s, n17_19s, n17_23s, n17_26s, n17_27s, n17_25s, n17_31s, n17_33s, n17_36s, n17_37s, n17_35s, n17_38s, n17_34s, n17_32s, n17_30s, n17_29s, n17_39s, n17_28s, n17_24s, n17_22s, n17_20s, n17_18s, n17_42s, n17_46s, n17_49s, n17_50s, n17_48s, n17_54s, n17_56s, n17_58s, n17_61s, n17_62s, n17_60s, n17_63s, n17_59s, n17_57s, n17_55s, n17_53s, n17_52s, n17_64s, n17_51s, n17_47s, n17_45s, n17_43s, n17_41s, n17_66s, n17_67s, n17_65s, n17_40s, n17_17s, n17_2s, n17_0s, want_some q17_5g4, want_some q17_5g10, want_some q17_58g2, want_some q17_58g14, want_some q17_58g17, Try.f17]
  | succ k ih =>
    intro i hi hgood
    have e1 : i < n := by omega
    have e2 := hcs i e1
    have e3 := hall i e1
    have this := L_code (ih (i + 1) (by omega) fun j h1 h2 => hgood j (by omega) h2)
    have hg := hgood i (Nat.le_refl _) e1
    have et : Int.tmod (i : Int) (W : Int) = ((i % W : Nat) : Int) := rfl
    have ed : Int.tdiv (i : Int) (W : Int) = ((i / W : Nat) : Int) := rfl
    have em := Nat.div_add_mod i W
    have lx : i % W < W := Nat.mod_lt _ (by omega)
    have ly : i / W ≤ i := Nat.div_le_self _ _
    simp only [badAt, badL, badU, not_or, not_and, Classical.not_not] at hg
    obtain ⟨g1, g2⟩ := hg
    rw [n17_44s]
    simp only [z17, H17, cast1] at this ⊢
    have hne : ((W : Nat) : Int) ≠ 0 := by omega
    have hsm : ∀ j : Nat, small (turnS (nd i) (nd j)) := fun j => by have := turnS_small (nd i) (nd j); unfold small; omega
    have hso : small o := by unfold small; omega
    generalize hx : i % W = x at *
    generalize hy : i / W = y at *
    by_cases x0 : 0 < x
    · have i1 : i - 1 < n := by omega
      have e4 := hcs _ i1
      have e5 := hall _ i1
      have a1 := fun bx : Blk => k41 (W : Int) hh o 0 off n c (x - 1) y (i - 1) (h := [.cells cs 1 true own, bx]) rfl (by unfold small; omega) (by unfold small; omega) (by omega) (by omega) (left_idx hx hy x0) i1 e4
      have a2 := k37 (nd i) (nd (i - 1)) e3 e5
      have a3 := fun bx : Blk => k40 (W : Int) hh o 0 off n c (turnS (nd i) (nd (i - 1))) (h := [.cells cs 1 true own, bx]) rfl hso (hsm _)
      have g3 := g1 x0
      unfold sureS at g3
      by_cases y0 : 0 < y
      · have i2 : i - W < n := by omega
        have e6 := hcs _ i2
        have e7 := hall _ i2
        have b1 := fun bx : Blk => k41 (W : Int) hh o 0 off n c x (y - 1) (i - W) (h := [.cells cs 1 true own, bx]) rfl (by unfold small; omega) (by unfold small; omega) (by omega) (by omega) (up_idx hx hy y0) i2 e6
        have b2 := k37 (nd i) (nd (i - W)) e3 e7
        have b3 := fun bx : Blk => k40 (W : Int) hh o 0 off n c (turnS (nd i) (nd (i - W))) (h := [.cells cs 1 true own, bx]) rfl hso (hsm _)
        have g4 := g2 y0
        unfold sureS at g4
        simp (disch := first | omega | decide | assumption | simp [scal]) [runOps_nil, runOps_cons, runOpsF_nil, runOpsF_cons, fstS_some, fstF_some, opStep_eq, want_none, oStep_true, oStep_false, fin_pure, fin_read, fin_alloc, fin_write, storeB, wrN, cellV, addWr, o_move, o_assign, o_pick, o_alloc, o_box, o_load, o_store, o_nilCheck, o_bin, o_un, o_extract, o_callV, o_callB, o_callI, callV_f, callV_y, callV_fc, o_makeFunc, partsA, Instr.fill, builtin_len, builtin_max2, bin_add, bin_sub, bin_mul, bin_quo, bin_rem, bin_lss, bin_leq, bin_gtr, bin_geq, bin_eql, bin_neq, un_neg, un_not, opd, opds, optAll, lk, putO, put, has, rep, nbeq, nblt, constOk, isC, ops, sub, cl, cr, co, bodyOf, thenS_normal, thenS_ret, thenS_exit, thenS_goto, afterN_normal, afterN_ret, afterN_exit, afterN_goto, condS_true, condS_false, blockS_normal, blockS_ret, blockS_exit, blockS_goto, loopS_exit, loopS_ret, plainS_some, drawS_some, fpsOk, disj, unord, mem, range', dropTo, enumT, undef, wrap_i64_id, Value.cells, mkCells, ptrTo, scal, cellsAt, rdN, endS_ret, resultsA, Option.bind_some, tupV, finish, reach, reachN, dep, ptrL_eq, ptrL, renL_eq, renL, ptrV_bool, ptrV_int, ptrV_string, ptrV_nilFunc, ptrV_nilIface, ptrV_nilPtr, ptrV_ptr, ptrV_nilSl, ptrV_sl, ptrV_iface, ptrV_agg, ptrV_tuple, ptrV_func, renV_bool, renV_int, renV_string, renV_nilFunc, renV_nilIface, renV_nilPtr, renV_ptr, renV_nilSl, renV_sl, renV_iface, renV_agg, renV_tuple, renV_func, o_fieldAddr fa_24_0 (by decide), loadA_eq ia_3, o_fieldAddr fa_24_1 (by decide), o_fieldAddr fa_24_2 (by decide), o_fieldAddr fa_24_3 (by decide), loadA_eq ia_22, lenA_sl lk_22, o_indexAddrS es_22, loadA_eq ia_24, n17_1s, n17_5s, n17_8s, n17_9s, n17_7s, n17_11s, n17_14s, n17_15s, n17_13s, n17_16s, n17_12s, n17_10s, n17_6s, n17_4s, n17_3s, n17_19s, n17_23s, n17_26s, n17_27s, n17_25s, n17_31s, n17_33s, n17_36s, n17_37s, n17_35s, n17_38s, n17_34s, n17_32s, n17_30s, n17_29s, n17_39s, n17_28s, n17_24s, n17_22s, n17_20s, n17_18s, n17_42s, n17_46s, n17_49s, n17_50s, n17_48s, n17_54s, n17_56s, n17_58s, n17_61s, n17_62s, n17_60s, n17_63s, n17_59s, n17_57s, n17_55s, n17_53s, n17_52s, n17_64s, n17_51s, n17_47s, n17_45s, n17_43s, n17_41s, n17_66s, n17_67s, n17_65s, n17_40s, n17_17s, n17_2s, n17_0s, want_some q17_5g4, want_some q17_5g10, want_some q17_58g2, want_some q17_58g14, want_some q17_58g17, Try.f17, e1, e2, et, ed, hne, x0, y0, a1, a2, a3, g3, b1, b2, b3, g4, loopS_same, this]
      · simp (disch := first | omega | decide | assumption | simp [scal]) [runOps_nil, runOps_cons, runOpsF_nil, runOpsF_cons, fstS_some, fstF_some, opStep_eq, want_none, oStep_true, oStep_false, fin_pure, fin_read, fin_alloc, fin_write, storeB, wrN, cellV, addWr, o_move, o_assign, o_pick, o_alloc, o_box, o_load, o_store, o_nilCheck, o_bin, o_un, o_extract, o_callV, o_callB, o_callI, callV_f, callV_y, callV_fc, o_makeFunc, partsA, Instr.fill, builtin_len, builtin_max2, bin_add, bin_sub, bin_mul, bin_quo, bin_rem, bin_lss, bin_leq, bin_gtr, bin_geq, bin_eql, bin_neq, un_neg, un_not, opd, opds, optAll, lk, putO, put, has, rep, nbeq, nblt, constOk, isC, ops, sub, cl, cr, co, bodyOf, thenS_normal, thenS_ret, thenS_exit, thenS_goto, afterN_normal, afterN_ret, afterN_exit, afterN_goto, condS_true, condS_false, blockS_normal, blockS_ret, blockS_exit, blockS_goto, loopS_exit, loopS_ret, plainS_some, drawS_some, fpsOk, disj, unord, mem, range', dropTo, enumT, undef, wrap_i64_id, Value.cells, mkCells, ptrTo, scal, cellsAt, rdN, endS_ret, resultsA, Option.bind_some, tupV, finish, reach, reachN, dep, ptrL_eq, ptrL, renL_eq, renL, ptrV_bool, ptrV_int, ptrV_string, ptrV_nilFunc, ptrV_nilIface, ptrV_nilPtr, ptrV_ptr, ptrV_nilSl, ptrV_sl, ptrV_iface, ptrV_agg, ptrV_tuple, ptrV_func, renV_bool, renV_int, renV_string, renV_nilFunc, renV_nilIface, renV_nilPtr, renV_ptr, renV_nilSl, renV_sl, renV_iface, renV_agg, renV_tuple, renV_func, o_fieldAddr fa_24_0 (by decide), loadA_eq ia_3, o_fieldAddr fa_24_1 (by decide), o_fieldAddr fa_24_2 (by decide), o_fieldAddr fa_24_3 (by decide), loadA_eq ia_22, lenA_sl lk_22, o_indexAddrS es_22, loadA_eq ia_24, n17_1s, n17_5s, n17_8s, n17_9s, n17_7s, n17_11s, n17_14s, n17_15s, n17_13s, n17_16s, n17_12s, n17_10s, n17_6s, n17_4s, n17_3s, n17_19s, n17_23s, n17_26s, n17_27s, n17_25s, n17_31s, n17_33s, n17_36s, n17_37s, n17_35s, n17_38s, n17_34s, n17_32s, n17_30s, n17_29s, n17_39s, n17_28s, n17_24s, n17_22s, n17_20s, n17_18s, n17_42s, n17_46s, n17_49s, n17_50s, n17_48s, n17_54s, n17_56s, n17_58s, n17_61s, n17_62s, n17_60s, n17_63s, n17_59s, n17_57s, n17_55s, n17_53s, n17_52s, n17_64s, n17_51s, n17_47s, n17_45s, n17_43s, n17_41s, n17_66s, n17_67s, n17_65s, n17_40s, n17_17s, n17_2s, n17_0s, want_some q17_5g4, want_some q17_5g10, want_some q17_58g2, want_some q17_58g14, want_some q17_58g17, Try.f17, e1, e2, et, ed, hne, x0, y0, a1, a2, a3, g3, loopS_same, this]
    · by_cases y0 : 0 < y
      · have i2 : i - W < n := by omega
        have e6 := hcs _ i2
        have e7 := hall _ i2
        have b1 := fun bx : Blk => k41 (W : Int) hh o 0 off n c x (y - 1) (i - W) (h := [.cells cs 1 true own, bx]) rfl (by unfold small; omega) (by unfold small; omega) (by omega) (by omega) (up_idx hx hy y0) i2 e6
        have b2 := k37 (nd i) (nd (i - W)) e3 e7
        have b3 := fun bx : Blk => k40 (W : Int) hh o 0 off n c (turnS (nd i) (nd (i - W))) (h := [.cells cs 1 true own, bx]) rfl hso (hsm _)
        have g4 := g2 y0
        unfold sureS at g4
        simp (disch := first | omega | decide | assumption | simp [scal]) [runOps_nil, runOps_cons, runOpsF_nil, runOpsF_cons, fstS_some, fstF_some, opStep_eq, want_none, oStep_true, oStep_false, fin_pure, fin_read, fin_alloc, fin_write, storeB, wrN, cellV, addWr, o_move, o_assign, o_pick, o_alloc, o_box, o_load, o_store, o_nilCheck, o_bin, o_un, o_extract, o_callV, o_callB, o_callI, callV_f, callV_y, callV_fc, o_makeFunc, partsA, Instr.fill, builtin_len, builtin_max2, bin_add, bin_sub, bin_mul, bin_quo, bin_rem, bin_lss, bin_leq, bin_gtr, bin_geq, bin_eql, bin_neq, un_neg, un_not, opd, opds, optAll, lk, putO, put, has, rep, nbeq, nblt, constOk, isC, ops, sub, cl, cr, co, bodyOf, thenS_normal, thenS_ret, thenS_exit, thenS_goto, afterN_normal, afterN_ret, afterN_exit, afterN_goto, condS_true, condS_false, blockS_normal, blockS_ret, blockS_exit, blockS_goto, loopS_exit, loopS_ret, plainS_some, drawS_some, fpsOk, disj, unord, mem, range', dropTo, enumT, undef, wrap_i64_id, Value.cells, mkCells, ptrTo, scal, cellsAt, rdN, endS_ret, resultsA, Option.bind_some, tupV, finish, reach, reachN, dep, ptrL_eq, ptrL, renL_eq, renL, ptrV_bool, ptrV_int, ptrV_string, ptrV_nilFunc, ptrV_nilIface, ptrV_nilPtr, ptrV_ptr, ptrV_nilSl, ptrV_sl, ptrV_iface, ptrV_agg, ptrV_tuple, ptrV_func, renV_bool, renV_int, renV_string, renV_nilFunc, renV_nilIface, renV_nilPtr, renV_ptr, renV_nilSl, renV_sl, renV_iface, renV_agg, renV_tuple, renV_func, o_fieldAddr fa_24_0 (by decide), loadA_eq ia_3, o_fieldAddr fa_24_1 (by decide), o_fieldAddr fa_24_2 (by decide), o_fieldAddr fa_24_3 (by decide), loadA_eq ia_22, lenA_sl lk_22, o_indexAddrS es_22, loadA_eq ia_24, n17_1s, n17_5s, n17_8s, n17_9s, n17_7s, n17_11s, n17_14s, n17_15s, n17_13s, n17_16s, n17_12s, n17_10s, n17_6s, n17_4s, n17_3s, n17_19s, n17_23s, n17_26s, n17_27s, n17_25s, n17_31s, n17_33s, n17_36s, n17_37s, n17_35s, n17_38s, n17_34s, n17_32s, n17_30s, n17_29s, n17_39s, n17_28s, n17_24s, n17_22s, n17_20s, n17_18s, n17_42s, n17_46s, n17_49s, n17_50s, n17_48s, n17_54s, n17_56s, n17_58s, n17_61s, n17_62s, n17_60s, n17_63s, n17_59s, n17_57s, n17_55s, n17_53s, n17_52s, n17_64s, n17_51s, n17_47s, n17_45s, n17_43s, n17_41s, n17_66s, n17_67s, n17_65s, n17_40s, n17_17s, n17_2s, n17_0s, want_some q17_5g4, want_some q17_5g10, want_some q17_58g2, want_some q17_58g14, want_some q17_58g17, Try.f17, e1, e2, et, ed, hne, x0, y0, b1, b2, b3, g4, loopS_same, this]
      · simp (disch := first | omega | decide | assumption | simp [scal]) [runOps_nil, runOps_cons, runOpsF_nil, runOpsF_cons, fstS_some, fstF_some, opStep_eq, want_none, oStep_true, oStep_false, fin_pure, fin_read, fin_alloc, fin_write, storeB, wrN, cellV, addWr, o_move, o_assign, o_pick, o_alloc, o_box, o_load, o_store, o_nilCheck, o_bin, o_un, o_extract, o_callV, o_callB, o_callI, callV_f, callV_y, callV_fc, o_makeFunc, partsA, Instr.fill, builtin_len, builtin_max2, bin_add, bin_sub, bin_mul, bin_quo, bin_rem, bin_lss, bin_leq, bin_gtr, bin_geq, bin_eql, bin_neq, un_neg, un_not, opd, opds, optAll, lk, putO, put, has, rep, nbeq, nblt, constOk, isC, ops, sub, cl, cr, co, bodyOf, thenS_normal, thenS_ret, thenS_exit, thenS_goto, afterN_normal, afterN_ret, afterN_exit, afterN_goto, condS_true, condS_false, blockS_normal, blockS_ret, blockS_exit, blockS_goto, loopS_exit, loopS_ret, plainS_some, drawS_some, fpsOk, disj, unord, mem, range', dropTo, enumT, undef, wrap_i64_id, Value.cells, mkCells, ptrTo, scal, cellsAt, rdN, endS_ret, resultsA, Option.bind_some, tupV, finish, reach, reachN, dep, ptrL_eq, ptrL, renL_eq, renL, ptrV_bool, ptrV_int, ptrV_string, ptrV_nilFunc, ptrV_nilIface, ptrV_nilPtr, ptrV_ptr, ptrV_nilSl, ptrV_sl, ptrV_iface, ptrV_agg, ptrV_tuple, ptrV_func, renV_bool, renV_int, renV_string, renV_nilFunc, renV_nilIface, renV_nilPtr, renV_ptr, renV_nilSl, renV_sl, renV_iface, renV_agg, renV_tuple, renV_func, o_fieldAddr fa_24_0 (by decide), loadA_eq ia_3, o_fieldAddr fa_24_1 (by decide), o_fieldAddr fa_24_2 (by decide), o_fieldAddr fa_24_3 (by decide), loadA_eq ia_22, lenA_sl lk_22, o_indexAddrS es_22, loadA_eq ia_24, n17_1s, n17_5s, n17_8s, n17_9s, n17_7s, n17_11s, n17_14s, n17_15s, n17_13s, n17_16s, n17_12s, n17_10s, n17_6s, n17_4s, n17_3s, n17_19s, n17_23s, n17_26s, n17_27s, n17_25s, n17_31s, n17_33s, n17_36s, n17_37s, n17_35s, n17_38s, n17_34s, n17_32s, n17_30s, n17_29s, n17_39s, n17_28s, n17_24s, n17_22s, n17_20s, n17_18s, n17_42s, n17_46s, n17_49s, n17_50s, n17_48s, n17_54s, n17_56s, n17_58s, n17_61s, n17_62s, n17_60s, n17_63s, n17_59s, n17_57s, n17_55s, n17_53s, n17_52s, n17_64s, n17_51s, n17_47s, n17_45s, n17_43s, n17_41s, n17_66s, n17_67s, n17_65s, n17_40s, n17_17s, n17_2s, n17_0s, want_some q17_5g4, want_some q17_5g10, want_some q17_58g2, want_some q17_58g14, want_some q17_58g17, Try.f17, e1, e2, et, ed, hne, x0, y0, loopS_same, this]
set_option maxHeartbeats 4000000 in
theorem l17d (hcs : ∀ i, i < n → cs[off + i]? = some (iv (nd i))) (hall : ∀ i, i < n → isN (nd i)) (hn : n ≤ 81) (hW : 2 ≤ W ∧ W ≤ 9) (ho : 0 ≤ o ∧ o ≤ 400) : ∀ k i : Nat, i + k = n → (∃ j, i ≤ j ∧ j < n ∧ badAt W o nd j) →
    ∃ σ, lk σ 2 = some (iv 14) ∧ codeB Try.prog LL ⟨17, 94, 1, none⟩ n17_44 ⟨z17 W hh o off n c i, H17 W hh o off n c cs own, []⟩ = some (.ret, ⟨σ, H17 W hh o off n c cs own, []⟩) := by
  intro k
  induction k with
  | zero =>
    intro i hi ⟨j, h1, h2, _⟩
    omega
  | succ k ih =>
    intro i hi hex
    have e1 : i < n := by omega
    have e2 := hcs i e1
    have e3 := hall i e1
    have et : Int.tmod (i : Int) (W : Int) = ((i % W : Nat) : Int) := rfl
    have ed : Int.tdiv (i : Int) (W : Int) = ((i / W : Nat) : Int) := rfl
    have em := Nat.div_add_mod i W
    have lx : i % W < W := Nat.mod_lt _ (by omega)
    have ly : i / W ≤ i := Nat.div_le_self _ _
    have hne : ((W : Nat) : Int) ≠ 0 := by omega
    have hsm : ∀ j : Nat, small (turnS (nd i) (nd j)) := fun j => by have := turnS_small (nd i) (nd j); unfold small; omega
    have hso : small o := by unfold small; omega
    rw [n17_44s]
    by_cases hb : badAt W o nd i
    · simp only [z17, H17, cast1]
      simp only [badAt, badL, badU, sureS] at hb
      generalize hx : i % W = x at *
      generalize hy : i / W = y at *
      by_cases x0 : 0 < x
      · have i1 : i - 1 < n := by omega
        have e4 := hcs _ i1
        have e5 := hall _ i1
        have a1 := fun bx : Blk => k41 (W : Int) hh o 0 off n c (x - 1) y (i - 1) (h := [.cells cs 1 true own, bx]) rfl (by unfold small; omega) (by unfold small; omega) (by omega) (by omega) (left_idx hx hy x0) i1 e4
        have a2 := k37 (nd i) (nd (i - 1)) e3 e5
        have a3 := fun bx : Blk => k40 (W : Int) hh o 0 off n c (turnS (nd i) (nd (i - 1))) (h := [.cells cs 1 true own, bx]) rfl hso (hsm _)
        by_cases g3 : max (turnS (nd i) (nd (i - 1))) (-turnS (nd i) (nd (i - 1))) + 2 * o < 1800
        · have y0 : 0 < y := by
            rcases hb with ⟨_, h⟩ | ⟨h, _⟩
            · exact absurd g3 h
            · exact h
          have i2 : i - W < n := by omega
          have e6 := hcs _ i2
          have e7 := hall _ i2
          have b1 := fun bx : Blk => k41 (W : Int) hh o 0 off n c x (y - 1) (i - W) (h := [.cells cs 1 true own, bx]) rfl (by unfold small; omega) (by unfold small; omega) (by omega) (by omega) (up_idx hx hy y0) i2 e6
          have b2 := k37 (nd i) (nd (i - W)) e3 e7
          have b3 := fun bx : Blk => k40 (W : Int) hh o 0 off n c (turnS (nd i) (nd (i - W))) (h := [.cells cs 1 true own, bx]) rfl hso (hsm _)
          have g4 : ¬ (max (turnS (nd i) (nd (i - W))) (-turnS (nd i) (nd (i - W))) + 2 * o < 1800) := by
            rcases hb with ⟨_, h⟩ | ⟨_, h⟩
            · exact absurd g3 h
            · exact h
          simp (disch := first | omega | decide | assumption | simp [scal]) [runOps_nil, runOps_cons, runOpsF_nil, runOpsF_cons, fstS_some, fstF_some, opStep_eq, want_none, oStep_true, oStep_false, fin_pure, fin_read, fin_alloc, fin_write, storeB, wrN, cellV, addWr, o_move, o_assign, o_pick, o_alloc, o_box, o_load, o_store, o_nilCheck, o_bin, o_un, o_extract, o_callV, o_callB, o_callI, callV_f, callV_y, callV_fc, o_makeFunc, partsA, Instr.fill, builtin_len, builtin_max2, bin_add, bin_sub, bin_mul, bin_quo, bin_rem, bin_lss, bin_leq, bin_gtr, bin_geq, bin_eql, bin_neq, un_neg, un_not, opd, opds, optAll, lk, putO, put, has, rep, nbeq, nblt, constOk, isC, ops, sub, cl, cr, co, bodyOf, thenS_normal, thenS_ret, thenS_exit, thenS_goto, afterN_normal, afterN_ret, afterN_exit, afterN_goto, condS_true, condS_false, blockS_normal, blockS_ret, blockS_exit, blockS_goto, loopS_exit, loopS_ret, plainS_some, drawS_some, fpsOk, disj, unord, mem, range', dropTo, enumT, undef, wrap_i64_id, Value.cells, mkCells, ptrTo, scal, cellsAt, rdN, endS_ret, resultsA, Option.bind_some, tupV, finish, reach, reachN, dep, ptrL_eq, ptrL, renL_eq, renL, ptrV_bool, ptrV_int, ptrV_string, ptrV_nilFunc, ptrV_nilIface, ptrV_nilPtr, ptrV_ptr, ptrV_nilSl, ptrV_sl, ptrV_iface, ptrV_agg, ptrV_tuple, ptrV_func, renV_bool, renV_int, renV_string, renV_nilFunc, renV_nilIface, renV_nilPtr, renV_ptr, renV_nilSl, renV_sl, renV_iface, renV_agg, renV_tuple, renV_func, o_fieldAddr fa_24_0 (by decide), loadA_eq ia_3, o_fieldAddr fa_24_1 (by decide), o_fieldAddr fa_24_2 (by decide), o_fieldAddr fa_24_3 (by decide), loadA_eq ia_22, lenA_sl lk_22, o_indexAddrS es_22, loadA_eq ia_24, n17_1s, n17_5s, n17_8s, n17_9s, n17_7s, n17_11s, n17_14s, n17_15s, n17_13s, n17_16s, n17_12s, n17_10s, n17_6s, n17_4s, n17_3s, n17_19s, n17_23s, n17_26s, n17_27s, n17_25s, n17_31s, n17_33s, n17_36s, n17_37s, n17_35s, n17_38s, n17_34s, n17_32s, n17_30s, n17_29s, n17_39s, n17_28s, n17_24s, n17_22s, n17_20s, n17_18s, n17_42s, n17_46s, n17_49s, n17_50s, n17_48s, n17_54s, n17_56s, n17_58s, n17_61s, n17_62s, n17_60s, n17_63s, n17_59s, n17_57s, n17_55s, n17_53s, n17_52s, n17_64s, n17_51s, n17_47s, n17_45s, n17_43s, n17_41s, n17_66s, n17_67s, n17_65s, n17_40s, n17_17s, n17_2s, n17_0s, want_some q17_5g4, want_some q17_5g10, want_some q17_58g2, want_some q17_58g14, want_some q17_58g17, Try.f17, e1, e2, et, ed, hne, x0, y0, a1, a2, a3, g3, b1, b2, b3, g4, loopS_same]
        · simp (disch := first | omega | decide | assumption | simp [scal]) [runOps_nil, runOps_cons, runOpsF_nil, runOpsF_cons, fstS_some, fstF_some, opStep_eq, want_none, oStep_true, oStep_false, fin_pure, fin_read, fin_alloc, fin_write, storeB, wrN, cellV, addWr, o_move, o_assign, o_pick, o_alloc, o_box, o_load, o_store, o_nilCheck, o_bin, o_un, o_extract, o_callV, o_callB, o_callI, callV_f, callV_y, callV_fc, o_makeFunc, partsA, Instr.fill, builtin_len, builtin_max2, bin_add, bin_sub, bin_mul, bin_quo, bin_rem, bin_lss, bin_leq, bin_gtr, bin_geq, bin_eql, bin_neq, un_neg, un_not, opd, opds, optAll, lk, putO, put, has, rep, nbeq, nblt, constOk, isC, ops, sub, cl, cr, co, bodyOf, thenS_normal, thenS_ret, thenS_exit, thenS_goto, afterN_normal, afterN_ret, afterN_exit, afterN_goto, condS_true, condS_false, blockS_normal, blockS_ret, blockS_exit, blockS_goto, loopS_exit, loopS_ret, plainS_some, drawS_some, fpsOk, disj, unord, mem, range', dropTo, enumT, undef, wrap_i64_id, Value.cells, mkCells, ptrTo, scal, cellsAt, rdN, endS_ret, resultsA, Option.bind_some, tupV, finish, reach, reachN, dep, ptrL_eq, ptrL, renL_eq, renL, ptrV_bool, ptrV_int, ptrV_string, ptrV_nilFunc, ptrV_nilIface, ptrV_nilPtr, ptrV_ptr, ptrV_nilSl, ptrV_sl, ptrV_iface, ptrV_agg, ptrV_tuple, ptrV_func, renV_bool, renV_int, renV_string, renV_nilFunc, renV_nilIface, renV_nilPtr, renV_ptr, renV_nilSl, renV_sl, renV_iface, renV_agg, renV_tuple, renV_func, o_fieldAddr fa_24_0 (by decide), loadA_eq ia_3, o_fieldAddr fa_24_1 (by decide), o_fieldAddr fa_24_2 (by decide), o_fieldAddr fa_24_3 (by decide), loadA_eq ia_22, lenA_sl lk_22, o_indexAddrS es_22, loadA_eq ia_24, n17_1s, n17_5s, n17_8s, n17_9s, n17_7s, n17_11s, n17_14s, n17_15s, n17_13s, n17_16s, n17_12s, n17_10s, n17_6s, n17_4s, n17_3s, n17_19s, n17_23s, n17_26s, n17_27s, n17_25s, n17_31s, n17_33s, n17_36s, n17_37s, n17_35s, n17_38s, n17_34s, n17_32s, n17_30s, n17_29s, n17_39s, n17_28s, n17_24s, n17_22s, n17_20s, n17_18s, n17_42s, n17_46s, n17_49s, n17_50s, n17_48s, n17_54s, n17_56s, n17_58s, n17_61s, n17_62s, n17_60s, n17_63s, n17_59s, n17_57s, n17_55s, n17_53s, n17_52s, n17_64s, n17_51s, n17_47s, n17_45s, n17_43s, n17_41s, n17_66s, n17_67s, n17_65s, n17_40s, n17_17s, n17_2s, n17_0s, want_some q17_5g4, want_some q17_5g10, want_some q17_58g2, want_some q17_58g14, want_some q17_58g17, Try.f17, e1, e2, et, ed, hne, x0, a1, a2, a3, g3, loopS_same]
      · have y0 : 0 < y := by
          rcases hb with ⟨h, _⟩ | ⟨h, _⟩
          · exact absurd h x0
          · exact h
        have i2 : i - W < n := by omega
        have e6 := hcs _ i2
        have e7 := hall _ i2
        have b1 := fun bx : Blk => k41 (W : Int) hh o 0 off n c x (y - 1) (i - W) (h := [.cells cs 1 true own, bx]) rfl (by unfold small; omega) (by unfold small; omega) (by omega) (by omega) (up_idx hx hy y0) i2 e6
        have b2 := k37 (nd i) (nd (i - W)) e3 e7
        have b3 := fun bx : Blk => k40 (W : Int) hh o 0 off n c (turnS (nd i) (nd (i - W))) (h := [.cells cs 1 true own, bx]) rfl hso (hsm _)
        have g4 : ¬ (max (turnS (nd i) (nd (i - W))) (-turnS (nd i) (nd (i - W))) + 2 * o < 1800) := by
          rcases hb with ⟨h, _⟩ | ⟨_, h⟩
          · exact absurd h x0
          · exact h
        simp (disch := first | omega | decide | assumption | simp [scal]) [runOps_nil, runOps_cons, runOpsF_nil, runOpsF_cons, fstS_some, fstF_some, opStep_eq, want_none, oStep_true, oStep_false, fin_pure, fin_read, fin_alloc, fin_write, storeB, wrN, cellV, addWr, o_move, o_assign, o_pick, o_alloc, o_box, o_load, o_store, o_nilCheck, o_bin, o_un, o_extract, o_callV, o_callB, o_callI, callV_f, callV_y, callV_fc, o_makeFunc, partsA, Instr.fill, builtin_len, builtin_max2, bin_add, bin_sub, bin_mul, bin_quo, bin_rem, bin_lss, bin_leq, bin_gtr, bin_geq, bin_eql, bin_neq, un_neg, un_not, opd, opds, optAll, lk, putO, put, has, rep, nbeq, nblt, constOk, isC, ops, sub, cl, cr, co, bodyOf, thenS_normal, thenS_ret, thenS_exit, thenS_goto, afterN_normal, afterN_ret, afterN_exit, afterN_goto, condS_true, condS_false, blockS_normal, blockS_ret, blockS_exit, blockS_goto, loopS_exit, loopS_ret, plainS_some, drawS_some, fpsOk, disj, unord, mem, range', dropTo, enumT, undef, wrap_i64_id, Value.cells, mkCells, ptrTo, scal, cellsAt, rdN, endS_ret, resultsA, Option.bind_some, tupV, finish, reach, reachN, dep, ptrL_eq, ptrL, renL_eq, renL, ptrV_bool, ptrV_int, ptrV_string, ptrV_nilFunc, ptrV_nilIface, ptrV_nilPtr, ptrV_ptr, ptrV_nilSl, ptrV_sl, ptrV_iface, ptrV_agg, ptrV_tuple, ptrV_func, renV_bool, renV_int, renV_string, renV_nilFunc, renV_nilIface, renV_nilPtr, renV_ptr, renV_nilSl, renV_sl, renV_iface, renV_agg, renV_tuple, renV_func, o_fieldAddr fa_24_0 (by decide), loadA_eq ia_3, o_fieldAddr fa_24_1 (by decide), o_fieldAddr fa_24_2 (by decide), o_fieldAddr fa_24_3 (by decide), loadA_eq ia_22, lenA_sl lk_22, o_indexAddrS es_22, loadA_eq ia_24, n17_1s, n17_5s, n17_8s, n17_9s, n17_7s, n17_11s, n17_14s, n17_15s, n17_13s, n17_16s, n17_12s, n17_10s, n17_6s, n17_4s, n17_3s, n17_19s, n17_23s, n17_26s, n17_27s, n17_25s, n17_31s, n17_33s, n17_36s, n17_37s, n17_35s, n17_38s, n17_34s, n17_32s, n17_30s, n17_29s, n17_39s, n17_28s, n17_24s, n17_22s, n17_20s, n17_18s, n17_42s, n17_46s, n17_49s, n17_50s, n17_48s, n17_54s, n17_56s, n17_58s, n17_61s, n17_62s, n17_60s, n17_63s, n17_59s, n17_57s, n17_55s, n17_53s, n17_52s, n17_64s, n17_51s, n17_47s, n17_45s, n17_43s, n17_41s, n17_66s, n17_67s, n17_65s, n17_40s, n17_17s, n17_2s, n17_0s, want_some q17_5g4, want_some q17_5g10, want_some q17_58g2, want_some q17_58g14, want_some q17_58g17, Try.f17, e1, e2, et, ed, hne, x0, y0, b1, b2, b3, g4, loopS_same]
    · obtain ⟨σ, hs, this⟩ := ih (i + 1) (by omega) (by
        obtain ⟨j, h1, h2, h3⟩ := hex
        refine ⟨j, ?_, h2, h3⟩
        rcases Nat.eq_or_lt_of_le h1 with rfl | h
        · exact absurd h3 hb
        · exact h)
      refine ⟨σ, hs, ?_⟩
      have this := L_code this
      simp only [badAt, badL, badU, not_or, not_and, Classical.not_not] at hb
      obtain ⟨g1, g2⟩ := hb
      simp only [z17, H17, cast1] at this ⊢
      generalize hx : i % W = x at *
      generalize hy : i / W = y at *
      by_cases x0 : 0 < x
      · have i1 : i - 1 < n := by omega
        have e4 := hcs _ i1
        have e5 := hall _ i1
        have a1 := fun bx : Blk => k41 (W : Int) hh o 0 off n c (x - 1) y (i - 1) (h := [.cells cs 1 true own, bx]) rfl (by unfold small; omega) (by unfold small; omega) (by omega) (by omega) (left_idx hx hy x0) i1 e4
        have a2 := k37 (nd i) (nd (i - 1)) e3 e5
        have a3 := fun bx : Blk => k40 (W : Int) hh o 0 off n c (turnS (nd i) (nd (i - 1))) (h := [.cells cs 1 true own, bx]) rfl hso (hsm _)
        have g3 := g1 x0
        unfold sureS at g3
        by_cases y0 : 0 < y
        · have i2 : i - W < n := by omega
          have e6 := hcs _ i2
          have e7 := hall _ i2
          have b1 := fun bx : Blk => k41 (W : Int) hh o 0 off n c x (y - 1) (i - W) (h := [.cells cs 1 true own, bx]) rfl (by unfold small; omega) (by unfold small; omega) (by omega) (by omega) (up_idx hx hy y0) i2 e6
          have b2 := k37 (nd i) (nd (i - W)) e3 e7
          have b3 := fun bx : Blk => k40 (W : Int) hh o 0 off n c (turnS (nd i) (nd (i - W))) (h := [.cells cs 1 true own, bx]) rfl hso (hsm _)
          have g4 := g2 y0
          unfold sureS at g4
          simp (disch := first | omega | decide | assumption | simp [scal]) [runOps_nil, runOps_cons, runOpsF_nil, runOpsF_cons, fstS_some, fstF_some, opStep_eq, want_none, oStep_true, oStep_false, fin_pure, fin_read, fin_alloc, fin_write, storeB, wrN, cellV, addWr, o_move, o_assign, o_pick, o_alloc, o_box, o_load, o_store, o_nilCheck, o_bin, o_un, o_extract, o_callV, o_callB, o_callI, callV_f, callV_y, callV_fc, o_makeFunc, partsA, Instr.fill, builtin_len, builtin_max2, bin_add, bin_sub, bin_mul, bin_quo, bin_rem, bin_lss, bin_leq, bin_gtr, bin_geq, bin_eql, bin_neq, un_neg, un_not, opd, opds, optAll, lk, putO, put, has, rep, nbeq, nblt, constOk, isC, ops, sub, cl, cr, co, bodyOf, thenS_normal, thenS_ret, thenS_exit, thenS_goto, afterN_normal, afterN_ret, afterN_exit, afterN_goto, condS_true, condS_false, blockS_normal, blockS_ret, blockS_exit, blockS_goto, loopS_exit, loopS_ret, plainS_some, drawS_some, fpsOk, disj, unord, mem, range', dropTo, enumT, undef, wrap_i64_id, Value.cells, mkCells, ptrTo, scal, cellsAt, rdN, endS_ret, resultsA, Option.bind_some, tupV, finish, reach, reachN, dep, ptrL_eq, ptrL, renL_eq, renL, ptrV_bool, ptrV_int, ptrV_string, ptrV_nilFunc, ptrV_nilIface, ptrV_nilPtr, ptrV_ptr, ptrV_nilSl, ptrV_sl, ptrV_iface, ptrV_agg, ptrV_tuple, ptrV_func, renV_bool, renV_int, renV_string, renV_nilFunc, renV_nilIface, renV_nilPtr, renV_ptr, renV_nilSl, renV_sl, renV_iface, renV_agg, renV_tuple, renV_func, o_fieldAddr fa_24_0 (by decide), loadA_eq ia_3, o_fieldAddr fa_24_1 (by decide), o_fieldAddr fa_24_2 (by decide), o_fieldAddr fa_24_3 (by decide), loadA_eq ia_22, lenA_sl lk_22, o_indexAddrS es_22, loadA_eq ia_24, n17_1s, n17_5s, n17_8s, n17_9s, n17_7s, n17_11s, n17_14s, n17_15s, n17_13s, n17_16s, n17_12s, n17_10s, n17_6s, n17_4s, n17_3s, n17_19s, n17_23s, n17_26s, n17_27s, n17_25s, n17_31s, n17_33s, n17_36s, n17_37s, n17_35s, n17_38s, n17_34s, n17_32s, n17_30s, n17_29s, n17_39s, n17_28s, n17_24s, n17_22s, n17_20s, n17_18s, n17_42s, n17_46s, n17_49s, n17_50s, n17_48s, n17_54s, n17_56s, n17_58s, n17_61s, n17_62s, n17_60s, n17_63s, n17_59s, n17_57s, n17_55s, n17_53s, n17_52s, n17_64s, n17_51s, n17_47s, n17_45s, n17_43s, n17_41s, n17_66s, n17_67s, n17_65s, n17_40s, n17_17s, n17_2s, n17_0s, want_some q17_5g4, want_some q17_5g10, want_some q17_58g2, want_some q17_58g14, want_some q17_58g17, Try.f17, e1, e2, et, ed, hne, x0, y0, a1, a2, a3, g3, b1, b2, b3, g4, loopS_same, this]
        · simp (disch := first | omega | decide | assumption | simp [scal]) [runOps_nil, runOps_cons, runOpsF_nil, runOpsF_cons, fstS_some, fstF_some, opStep_eq, want_none, oStep_true, oStep_false, fin_pure, fin_read, fin_alloc, fin_write, storeB, wrN, cellV, addWr, o_move, o_assign, o_pick, o_alloc, o_box, o_load, o_store, o_nilCheck, o_bin, o_un, o_extract, o_callV, o_callB, o_callI, callV_f, callV_y, callV_fc, o_makeFunc, partsA, Instr.fill, builtin_len, builtin_max2, bin_add, bin_sub, bin_mul, bin_quo, bin_rem, bin_lss, bin_leq, bin_gtr, bin_geq, bin_eql, bin_neq, un_neg, un_not, opd, opds, optAll, lk, putO, put, has, rep, nbeq, nblt, constOk, isC, ops, sub, cl, cr, co, bodyOf, thenS_normal, thenS_ret, thenS_exit, thenS_goto, afterN_normal, afterN_ret, afterN_exit, afterN_goto, condS_true, condS_false, blockS_normal, blockS_ret, blockS_exit, blockS_goto, loopS_exit, loopS_ret, plainS_some, drawS_some, fpsOk, disj, unord, mem, range', dropTo, enumT, undef, wrap_i64_id, Value.cells, mkCells, ptrTo, scal, cellsAt, rdN, endS_ret, resultsA, Option.bind_some, tupV, finish, reach, reachN, dep, ptrL_eq, ptrL, renL_eq, renL, ptrV_bool, ptrV_int, ptrV_string, ptrV_nilFunc, ptrV_nilIface, ptrV_nilPtr, ptrV_ptr, ptrV_nilSl, ptrV_sl, ptrV_iface, ptrV_agg, ptrV_tuple, ptrV_func, renV_bool, renV_int, renV_string, renV_nilFunc, renV_nilIface, renV_nilPtr, renV_ptr, renV_nilSl, renV_sl, renV_iface, renV_agg, renV_tuple, renV_func, o_fieldAddr fa_24_0 (by decide), loadA_eq ia_3, o_fieldAddr fa_24_1 (by decide), o_fieldAddr fa_24_2 (by decide), o_fieldAddr fa_24_3 (by decide), loadA_eq ia_22, lenA_sl lk_22, o_indexAddrS es_22, loadA_eq ia_24, n17_1s, n17_5s, n17_8s, n17_9s, n17_7s, n17_11s, n17_14s, n17_15s, n17_13s, n17_16s, n17_12s, n17_10s, n17_6s, n17_4s, n17_3s, n17_19s, n17_23s, n17_26s, n17_27s, n17_25s, n17_31s, n17_33s, n17_36s, n17_37s, n17_35s, n17_38s, n17_34s, n17_32s, n17_30s, n17_29s, n17_39s, n17_28s, n17_24s, n17_22s, n17_20s, n17_18s, n17_42s, n17_46s, n17_49s, n17_50s, n17_48s, n17_54s, n17_56s, n17_58s, n17_61s, n17_62s, n17_60s, n17_63s, n17_59s, n17_57s, n17_55s, n17_53s, n17_52s, n17_64s, n17_51s, n17_47s, n17_45s, n17_43s, n17_41s, n17_66s, n17_67s, n17_65s, n17_40s, n17_17s, n17_2s, n17_0s, want_some q17_5g4, want_some q17_5g10, want_some q17_58g2, want_some q17_58g14, want_some q17_58g17, Try.f17, e1, e2, et, ed, hne, x0, y0, a1, a2, a3, g3, loopS_same, this]
      · by_cases y0 : 0 < y
        · have i2 : i - W < n := by omega
          have e6 := hcs _ i2
          have e7 := hall _ i2
          have b1 := fun bx : Blk => k41 (W : Int) hh o 0 off n c x (y - 1) (i - W) (h := [.cells cs 1 true own, bx]) rfl (by unfold small; omega) (by unfold small; omega) (by omega) (by omega) (up_idx hx hy y0) i2 e6
          have b2 := k37 (nd i) (nd (i - W)) e3 e7
          have b3 := fun bx : Blk => k40 (W : Int) hh o 0 off n c (turnS (nd i) (nd (i - W))) (h := [.cells cs 1 true own, bx]) rfl hso (hsm _)
          have g4 := g2 y0
          unfold sureS at g4
          simp (disch := first | omega | decide | assumption | simp [scal]) [runOps_nil, runOps_cons, runOpsF_nil, runOpsF_cons, fstS_some, fstF_some, opStep_eq, want_none, oStep_true, oStep_false, fin_pure, fin_read, fin_alloc, fin_write, storeB, wrN, cellV, addWr, o_move, o_assign, o_pick, o_alloc, o_box, o_load, o_store, o_nilCheck, o_bin, o_un, o_extract, o_callV, o_callB, o_callI, callV_f, callV_y, callV_fc, o_makeFunc, partsA, Instr.fill, builtin_len, builtin_max2, bin_add, bin_sub, bin_mul, bin_quo, bin_rem, bin_lss, bin_leq, bin_gtr, bin_geq, bin_eql, bin_neq, un_neg, un_not, opd, opds, optAll, lk, putO, put, has, rep, nbeq, nblt, constOk, isC, ops, sub, cl, cr, co, bodyOf, thenS_normal, thenS_ret, thenS_exit, thenS_goto, afterN_normal, afterN_ret, afterN_exit, afterN_goto, condS_true, condS_false, blockS_normal, blockS_ret, blockS_exit, blockS_goto, loopS_exit, loopS_ret, plainS_some, drawS_some, fpsOk, disj, unord, mem, range', dropTo, enumT, undef, wrap_i64_id, Value.cells, mkCells, ptrTo, scal, cellsAt, rdN, endS_ret, resultsA, Option.bind_some, tupV, finish, reach, reachN, dep, ptrL_eq, ptrL, renL_eq, renL, ptrV_bool, ptrV_int, ptrV_string, ptrV_nilFunc, ptrV_nilIface, ptrV_nilPtr, ptrV_ptr, ptrV_nilSl, ptrV_sl, ptrV_iface, ptrV_agg, ptrV_tuple, ptrV_func, renV_bool, renV_int, renV_string, renV_nilFunc, renV_nilIface, renV_nilPtr, renV_ptr, renV_nilSl, renV_sl, renV_iface, renV_agg, renV_tuple, renV_func, o_fieldAddr fa_24_0 (by decide), loadA_eq ia_3, o_fieldAddr fa_24_1 (by decide), o_fieldAddr fa_24_2 (by decide), o_fieldAddr fa_24_3 (by decide), loadA_eq ia_22, lenA_sl lk_22, o_indexAddrS es_22, loadA_eq ia_24, n17_1s, n17_5s, n17_8s, n17_9s, n17_7s, n17_11s, n17_14s, n17_15s, n17_13s, n17_16s, n17_12s, n17_10s, n17_6s, n17_4s, n17_3s, n17_19s, n17_23s, n17_26s, n17_27s, n17_25s, n17_31s, n17_33s, n17_36s, n17_37s, n17_35s, n17_38s, n17_34s, n17_32s, n17_30s, n17_29s, n17_39s, n17_28s, n17_24s, n17_22s, n17_20s, n17_18s, n17_42s, n17_46s, n17_49s, n17_50s, n17_48s, n17_54s, n17_56s, n17_58s, n17_61s, n17_62s, n17_60s, n17_63s, n17_59s, n17_57s, n17_55s, n17_53s, n17_52s, n17_64s, n17_51s, n17_47s, n17_45s, n17_43s, n17_41s, n17_66s, n17_67s, n17_65s, n17_40s, n17_17s, n17_2s, n17_0s, want_some q17_5g4, want_some q17_5g10, want_some q17_58g2, want_some q17_58g14, want_some q17_58g17, Try.f17, e1, e2, et, ed, hne, x0, y0, b1, b2, b3, g4, loopS_same, this]
        · simp (disch := first | omega | decide | assumption | simp [scal]) [runOps_nil, runOps_cons, runOpsF_nil, runOpsF_cons, fstS_some, fstF_some, opStep_eq, want_none, oStep_true, oStep_false, fin_pure, fin_read, fin_alloc, fin_write, storeB, wrN, cellV, addWr, o_move, o_assign, o_pick, o_alloc, o_box, o_load, o_store, o_nilCheck, o_bin, o_un, o_extract, o_callV, o_callB, o_callI, callV_f, callV_y, callV_fc, o_makeFunc, partsA, Instr.fill, builtin_len, builtin_max2, bin_add, bin_sub, bin_mul, bin_quo, bin_rem, bin_lss, bin_leq, bin_gtr, bin_geq, bin_eql, bin_neq, un_neg, un_not, opd, opds, optAll, lk, putO, put, has, rep, nbeq, nblt, constOk, isC, ops, sub, cl, cr, co, bodyOf, thenS_normal, thenS_ret, thenS_exit, thenS_goto, afterN_normal, afterN_ret, afterN_exit, afterN_goto, condS_true, condS_false, blockS_normal, blockS_ret, blockS_exit, blockS_goto, loopS_exit, loopS_ret, plainS_some, drawS_some, fpsOk, disj, unord, mem, range', dropTo, enumT, undef, wrap_i64_id, Value.cells, mkCells, ptrTo, scal, cellsAt, rdN, endS_ret, resultsA, Option.bind_some, tupV, finish, reach, reachN, dep, ptrL_eq, ptrL, renL_eq, renL, ptrV_bool, ptrV_int, ptrV_string, ptrV_nilFunc, ptrV_nilIface, ptrV_nilPtr, ptrV_ptr, ptrV_nilSl, ptrV_sl, ptrV_iface, ptrV_agg, ptrV_tuple, ptrV_func, renV_bool, renV_int, renV_string, renV_nilFunc, renV_nilIface, renV_nilPtr, renV_ptr, renV_nilSl, renV_sl, renV_iface, renV_agg, renV_tuple, renV_func, o_fieldAddr fa_24_0 (by decide), loadA_eq ia_3, o_fieldAddr fa_24_1 (by decide), o_fieldAddr fa_24_2 (by decide), o_fieldAddr fa_24_3 (by decide), loadA_eq ia_22, lenA_sl lk_22, o_indexAddrS es_22, loadA_eq ia_24, n17_1s, n17_5s, n17_8s, n17_9s, n17_7s, n17_11s, n17_14s, n17_15s, n17_13s, n17_16s, n17_12s, n17_10s, n17_6s, n17_4s, n17_3s, n17_19s, n17_23s, n17_26s, n17_27s, n17_25s, n17_31s, n17_33s, n17_36s, n17_37s, n17_35s, n17_38s, n17_34s, n17_32s, n17_30s, n17_29s, n17_39s, n17_28s, n17_24s, n17_22s, n17_20s, n17_18s, n17_42s, n17_46s, n17_49s, n17_50s, n17_48s, n17_54s, n17_56s, n17_58s, n17_61s, n17_62s, n17_60s, n17_63s, n17_59s, n17_57s, n17_55s, n17_53s, n17_52s, n17_64s, n17_51s, n17_47s, n17_45s, n17_43s, n17_41s, n17_66s, n17_67s, n17_65s, n17_40s, n17_17s, n17_2s, n17_0s, want_some q17_5g4, want_some q17_5g10, want_some q17_58g2, want_some q17_58g14, want_some q17_58g17, Try.f17, e1, e2, et, ed, hne, x0, y0, loopS_same, this]
end
end Go.Proofs.Ytgpcjdhlijompaa.ore
namespace Go.Proofs.Ytgpcjdhlijompaa.ore
open Go.GE
set_option linter.unusedVariables false
set_option linter.unusedSimpArgs false
set_option maxRecDepth 100000
def dims (w hh o : Int) : Prop := (2 ≤ w ∧ w ≤ 9) ∧ (2 ≤ hh ∧ hh ≤ 9) ∧ (0 ≤ o ∧ o ≤ 400)
open Classical in
noncomputable def chk (w hh o : Int) (n : Nat) (nd : Nat → Int) : Int :=
  if ¬ dims w hh o then 1 else if ¬ (n : Int) = w * hh then 4 else if ∃ i, i < n ∧ ¬ isN (nd i) then 1 else if ∃ i, i < n ∧ badAt w.toNat o nd i then 14 else 0
theorem and_dec {a b c : Int} (h : ¬ (a ≤ b ∧ b ≤ c)) : (decide (a ≤ b) && decide (b ≤ c)) = false := by simp; omega
theorem prod_small {w hh : Int} (h1 : 2 ≤ w ∧ w ≤ 9) (h2 : 2 ≤ hh ∧ hh ≤ 9) : 4 ≤ w * hh ∧ w * hh ≤ 81 := by
  obtain ⟨a, b⟩ := h1; obtain ⟨c, d⟩ := h2
  have := Int.mul_le_mul a c (by omega) (by omega)
  have := Int.mul_le_mul b d (by omega) (by omega)
  omega
set_option maxHeartbeats 4000000 in
theorem c17 (w hh o : Int) (off n c : Nat) (cs : List Value) (own : Bool) (nd : Nat → Int) (hcs : ∀ i, i < n → cs[off + i]? = some (iv (nd i))) (hn : n ≤ 200) :
   LL.run 17 [fv w hh o 0 off n c] [.cells cs 1 true own] = some ⟨iv (chk w hh o n nd), [], []⟩ := by
  refine go (by decide) ?_
  rw [run17 _ _ _ (by simp)]
  by_cases h1 : 2 ≤ w ∧ w ≤ 9
  · by_cases h2 : 2 ≤ hh ∧ hh ≤ 9
    · by_cases h3 : 0 ≤ o ∧ o ≤ 400
      · have m := prod_small h1 h2
        have hd : dims w hh o := ⟨h1, h2, h3⟩
        by_cases h4 : (n : Int) = w * hh
        · have h4' : w * hh = n := h4.symm
          obtain ⟨W, rfl⟩ : ∃ W : Nat, w = W := ⟨w.toNat, by omega⟩
          have h1' : 2 ≤ W ∧ W ≤ 9 := by omega
          by_cases h5 : ∃ i, i < n ∧ ¬ isN (nd i)
          · have hr : chk W hh o n nd = 1 := by simp only [chk, hd, h4, h5, not_true, if_false, if_true]
            obtain ⟨σ, hs, hl⟩ := l17b (W : Int) hh o off n c cs own nd hcs (by omega) n 0 (by omega) (by obtain ⟨i, a, b⟩ := h5; exact ⟨i, by omega, a, b⟩)
            simp only [s17, H17, Int.natCast_zero] at hl
            rw [hr]
            simp (disch := first | omega | decide | assumption | simp [scal]) [runOps_nil, runOps_cons, runOpsF_nil, runOpsF_cons, fstS_some, fstF_some, opStep_eq, want_none, oStep_true, oStep_false, fin_pure, fin_read, fin_alloc, fin_write, storeB, wrN, cellV, addWr, o_move, o_assign, o_pick, o_alloc, o_box, o_load, o_store, o_nilCheck, o_bin, o_un, o_extract, o_callV, o_callB, o_callI, callV_f, callV_y, callV_fc, o_makeFunc, partsA, Instr.fill, builtin_len, builtin_max2, bin_add, bin_sub, bin_mul, bin_quo, bin_rem, bin_lss, bin_leq, bin_gtr, bin_geq, bin_eql, bin_neq, un_neg, un_not, opd, opds, optAll, lk, putO, put, has, rep, nbeq, nblt, constOk, isC, ops, sub, cl, cr, co, bodyOf, thenS_normal, thenS_ret, thenS_exit, thenS_goto, afterN_normal, afterN_ret, afterN_exit, afterN_goto, condS_true, condS_false, blockS_normal, blockS_ret, blockS_exit, blockS_goto, loopS_exit, loopS_ret, plainS_some, drawS_some, fpsOk, disj, unord, mem, range', dropTo, enumT, undef, wrap_i64_id, Value.cells, mkCells, ptrTo, scal, cellsAt, rdN, endS_ret, resultsA, Option.bind_some, tupV, finish, reach, reachN, dep, ptrL_eq, ptrL, renL_eq, renL, ptrV_bool, ptrV_int, ptrV_string, ptrV_nilFunc, ptrV_nilIface, ptrV_nilPtr, ptrV_ptr, ptrV_nilSl, ptrV_sl, ptrV_iface, ptrV_agg, ptrV_tuple, ptrV_func, renV_bool, renV_int, renV_string, renV_nilFunc, renV_nilIface, renV_nilPtr, renV_ptr, renV_nilSl, renV_sl, renV_iface, renV_agg, renV_tuple, renV_func, o_fieldAddr fa_24_0 (by decide), loadA_eq ia_3, o_fieldAddr fa_24_1 (by decide), o_fieldAddr fa_24_2 (by decide), o_fieldAddr fa_24_3 (by decide), loadA_eq ia_22, lenA_sl lk_22, o_indexAddrS es_22, loadA_eq ia_24, n17_1s, n17_5s, n17_8s, n17_9s, n17_7s, n17_11s, n17_14s, n17_15s, n17_13s, n17_16s, n17_12s, n17_10s, n17_6s, n17_4s, n17_3s, n17_19s, n17_23s, n17_26s, n17_27s, n17_25s, n17_31s, n17_33s, n17_36s, n17_37s, n17_35s, n17_38s, n17_34s, n17_32s, n17_30s, n17_29s, n17_39s, n17_28s, n17_24s, n17_22s, n17_20s, n17_18s, n17_42s, n17_46s, n17_49s, n17_50s, n17_48s, n17_54s, n17_56s, n17_58s, n17_61s, n17_62s, n17_60s, n17_63s, n17_59s, n17_57s, n17_55s, n17_53s, n17_52s, n17_64s, n17_51s, n17_47s, n17_45s, n17_43s, n17_41s, n17_66s, n17_67s, n17_65s, n17_40s, n17_17s, n17_2s, n17_0s, want_some q17_5g4, want_some q17_5g10, want_some q17_58g2, want_some q17_58g14, want_some q17_58g17, Try.f17, k36, h1, h2, h3, h4', hl, hs]
          · have h5' : ∀ i, i < n → isN (nd i) := fun i hi => Classical.byContradiction fun h => h5 ⟨i, hi, h⟩
            have hl := l17a (W : Int) hh o off n c cs own nd hcs (by omega) n 0 (by omega) (fun i _ h => h5' i h)
            simp only [s17, H17, Int.natCast_zero] at hl
            by_cases h6 : ∃ i, i < n ∧ badAt W o nd i
            · have hr : chk W hh o n nd = 14 := by simp only [chk, hd, h4, h5, not_true, if_false, Int.toNat_natCast, h6, if_true]
              obtain ⟨σ, hs, hl2⟩ := l17d W hh o off n c cs own nd hcs h5' (by omega) h1' h3 n 0 (by omega) (by obtain ⟨i, a, b⟩ := h6; exact ⟨i, by omega, a, b⟩)
              simp only [z17, H17, Int.natCast_zero] at hl2
              rw [hr]
              simp (disch := first | omega | decide | assumption | simp [scal]) [runOps_nil, runOps_cons, runOpsF_nil, runOpsF_cons, fstS_some, fstF_some, opStep_eq, want_none, oStep_true, oStep_false, fin_pure, fin_read, fin_alloc, fin_write, storeB, wrN, cellV, addWr, o_move, o_assign, o_pick, o_alloc, o_box, o_load, o_store, o_nilCheck, o_bin, o_un, o_extract, o_callV, o_callB, o_callI, callV_f, callV_y, callV_fc, o_makeFunc, partsA, Instr.fill, builtin_len, builtin_max2, bin_add, bin_sub, bin_mul, bin_quo, bin_rem, bin_lss, bin_leq, bin_gtr, bin_geq, bin_eql, bin_neq, un_neg, un_not, opd, opds, optAll, lk, putO, put, has, rep, nbeq, nblt, constOk, isC, ops, sub, cl, cr, co, bodyOf, thenS_normal, thenS_ret, thenS_exit, thenS_goto, afterN_normal, afterN_ret, afterN_exit, afterN_goto, condS_true, condS_false, blockS_normal, blockS_ret, blockS_exit, blockS_goto, loopS_exit, loopS_ret, plainS_some, drawS_some, fpsOk, disj, unord, mem, range', dropTo, enumT, undef, wrap_i64_id, Value.cells, mkCells, ptrTo, scal, cellsAt, rdN, endS_ret, resultsA, Option.bind_some, tupV, finish, reach, reachN, dep, ptrL_eq, ptrL, renL_eq, renL, ptrV_bool, ptrV_int, ptrV_string, ptrV_nilFunc, ptrV_nilIface, ptrV_nilPtr, ptrV_ptr, ptrV_nilSl, ptrV_sl, ptrV_iface, ptrV_agg, ptrV_tuple, ptrV_func, renV_bool, renV_int, renV_string, renV_nilFunc, renV_nilIface, renV_nilPtr, renV_ptr, renV_nilSl, renV_sl, renV_iface, renV_agg, renV_tuple, renV_func, o_fieldAddr fa_24_0 (by decide), loadA_eq ia_3, o_fieldAddr fa_24_1 (by decide), o_fieldAddr fa_24_2 (by decide), o_fieldAddr fa_24_3 (by decide), loadA_eq ia_22, lenA_sl lk_22, o_indexAddrS es_22, loadA_eq ia_24, n17_1s, n17_5s, n17_8s, n17_9s, n17_7s, n17_11s, n17_14s, n17_15s, n17_13s, n17_16s, n17_12s, n17_10s, n17_6s, n17_4s, n17_3s, n17_19s, n17_23s, n17_26s, n17_27s, n17_25s, n17_31s, n17_33s, n17_36s, n17_37s, n17_35s, n17_38s, n17_34s, n17_32s, n17_30s, n17_29s, n17_39s, n17_28s, n17_24s, n17_22s, n17_20s, n17_18s, n17_42s, n17_46s, n17_49s, n17_50s, n17_48s, n17_54s, n17_56s, n17_58s, n17_61s, n17_62s, n17_60s, n17_63s, n17_59s, n17_57s, n17_55s, n17_53s, n17_52s, n17_64s, n17_51s, n17_47s, n17_45s, n17_43s, n17_41s, n17_66s, n17_67s, n17_65s, n17_40s, n17_17s, n17_2s, n17_0s, want_some q17_5g4, want_some q17_5g10, want_some q17_58g2, want_some q17_58g14, want_some q17_58g17, Try.f17, k36, h1, h2, h3, h4', hl, hl2, hs]
            · have hr : chk W hh o n nd = 0 := by simp only [chk, hd, h4, h5, not_true, if_false, Int.toNat_natCast, h6, if_false]
              have hl2 := l17c W hh o off n c cs own nd hcs h5' (by omega) h1' h3 n 0 (by omega) (fun i _ h hb => h6 ⟨i, h, hb⟩)
              simp only [z17, H17, Int.natCast_zero] at hl2
              rw [hr]
              simp (disch := first | omega | decide | assumption | simp [scal]) [runOps_nil, runOps_cons, runOpsF_nil, runOpsF_cons, fstS_some, fstF_some, opStep_eq, want_none, oStep_true, oStep_false, fin_pure, fin_read, fin_alloc, fin_write, storeB, wrN, cellV, addWr, o_move, o_assign, o_pick, o_alloc, o_box, o_load, o_store, o_nilCheck, o_bin, o_un, o_extract, o_callV, o_callB, o_callI, callV_f, callV_y, callV_fc, o_makeFunc, partsA, Instr.fill, builtin_len, builtin_max2, bin_add, bin_sub, bin_mul, bin_quo, bin_rem, bin_lss, bin_leq, bin_gtr, bin_geq, bin_eql, bin_neq, un_neg, un_not, opd, opds, optAll, lk, putO, put, has, rep, nbeq, nblt, constOk, isC, ops, sub, cl, cr, co, bodyOf, thenS_normal, thenS_ret, thenS_exit, thenS_goto, afterN_normal, afterN_ret, afterN_exit, afterN_goto, condS_true, condS_false, blockS_normal, blockS_ret, blockS_exit, blockS_goto, loopS_exit, loopS_ret, plainS_some, drawS_some, fpsOk, disj, unord, mem, range', dropTo, enumT, undef, wrap_i64_id, Value.cells, mkCells, ptrTo, scal, cellsAt, rdN, endS_ret, resultsA, Option.bind_some, tupV, finish, reach, reachN, dep, ptrL_eq, ptrL, renL_eq, renL, ptrV_bool, ptrV_int, ptrV_string, ptrV_nilFunc, ptrV_nilIface, ptrV_nilPtr, ptrV_ptr, ptrV_nilSl, ptrV_sl, ptrV_iface, ptrV_agg, ptrV_tuple, ptrV_func, renV_bool, renV_int, renV_string, renV_nilFunc, renV_nilIface, renV_nilPtr, renV_ptr, renV_nilSl, renV_sl, renV_iface, renV_agg, renV_tuple, renV_func, o_fieldAddr fa_24_0 (by decide), loadA_eq ia_3, o_fieldAddr fa_24_1 (by decide), o_fieldAddr fa_24_2 (by decide), o_fieldAddr fa_24_3 (by decide), loadA_eq ia_22, lenA_sl lk_22, o_indexAddrS es_22, loadA_eq ia_24, n17_1s, n17_5s, n17_8s, n17_9s, n17_7s, n17_11s, n17_14s, n17_15s, n17_13s, n17_16s, n17_12s, n17_10s, n17_6s, n17_4s, n17_3s, n17_19s, n17_23s, n17_26s, n17_27s, n17_25s, n17_31s, n17_33s, n17_36s, n17_37s, n17_35s, n17_38s, n17_34s, n17_32s, n17_30s, n17_29s, n17_39s, n17_28s, n17_24s, n17_22s, n17_20s, n17_18s, n17_42s, n17_46s, n17_49s, n17_50s, n17_48s, n17_54s, n17_56s, n17_58s, n17_61s, n17_62s, n17_60s, n17_63s, n17_59s, n17_57s, n17_55s, n17_53s, n17_52s, n17_64s, n17_51s, n17_47s, n17_45s, n17_43s, n17_41s, n17_66s, n17_67s, n17_65s, n17_40s, n17_17s, n17_2s, n17_0s, want_some q17_5g4, want_some q17_5g10, want_some q17_58g2, want_some q17_58g14, want_some q17_58g17, Try.f17, k36, h1, h2, h3, h4', hl, hl2]
        · have hr : chk w hh o n nd = 4 := by simp only [chk, hd, h4, not_true, if_false, not_false_eq_true, if_true]
          rw [hr]
          simp (disch := first | omega | decide | assumption | simp [scal]) [runOps_nil, runOps_cons, runOpsF_nil, runOpsF_cons, fstS_some, fstF_some, opStep_eq, want_none, oStep_true, oStep_false, fin_pure, fin_read, fin_alloc, fin_write, storeB, wrN, cellV, addWr, o_move, o_assign, o_pick, o_alloc, o_box, o_load, o_store, o_nilCheck, o_bin, o_un, o_extract, o_callV, o_callB, o_callI, callV_f, callV_y, callV_fc, o_makeFunc, partsA, Instr.fill, builtin_len, builtin_max2, bin_add, bin_sub, bin_mul, bin_quo, bin_rem, bin_lss, bin_leq, bin_gtr, bin_geq, bin_eql, bin_neq, un_neg, un_not, opd, opds, optAll, lk, putO, put, has, rep, nbeq, nblt, constOk, isC, ops, sub, cl, cr, co, bodyOf, thenS_normal, thenS_ret, thenS_exit, thenS_goto, afterN_normal, afterN_ret, afterN_exit, afterN_goto, condS_true, condS_false, blockS_normal, blockS_ret, blockS_exit, blockS_goto, loopS_exit, loopS_ret, plainS_some, drawS_some, fpsOk, disj, unord, mem, range', dropTo, enumT, undef, wrap_i64_id, Value.cells, mkCells, ptrTo, scal, cellsAt, rdN, endS_ret, resultsA, Option.bind_some, tupV, finish, reach, reachN, dep, ptrL_eq, ptrL, renL_eq, renL, ptrV_bool, ptrV_int, ptrV_string, ptrV_nilFunc, ptrV_nilIface, ptrV_nilPtr, ptrV_ptr, ptrV_nilSl, ptrV_sl, ptrV_iface, ptrV_agg, ptrV_tuple, ptrV_func, renV_bool, renV_int, renV_string, renV_nilFunc, renV_nilIface, renV_nilPtr, renV_ptr, renV_nilSl, renV_sl, renV_iface, renV_agg, renV_tuple, renV_func, o_fieldAddr fa_24_0 (by decide), loadA_eq ia_3, o_fieldAddr fa_24_1 (by decide), o_fieldAddr fa_24_2 (by decide), o_fieldAddr fa_24_3 (by decide), loadA_eq ia_22, lenA_sl lk_22, o_indexAddrS es_22, loadA_eq ia_24, n17_1s, n17_5s, n17_8s, n17_9s, n17_7s, n17_11s, n17_14s, n17_15s, n17_13s, n17_16s, n17_12s, n17_10s, n17_6s, n17_4s, n17_3s, n17_19s, n17_23s, n17_26s, n17_27s, n17_25s, n17_31s, n17_33s, n17_36s, n17_37s, n17_35s, n17_38s, n17_34s, n17_32s, n17_30s, n17_29s, n17_39s, n17_28s, n17_24s, n17_22s, n17_20s, n17_18s, n17_42s, n17_46s, n17_49s, n17_50s, n17_48s, n17_54s, n17_56s, n17_58s, n17_61s, n17_62s, n17_60s, n17_63s, n17_59s, n17_57s, n17_55s, n17_53s, n17_52s, n17_64s, n17_51s, n17_47s, n17_45s, n17_43s, n17_41s, n17_66s, n17_67s, n17_65s, n17_40s, n17_17s, n17_2s, n17_0s, want_some q17_5g4, want_some q17_5g10, want_some q17_58g2, want_some q17_58g14, want_some q17_58g17, Try.f17, k36, h1, h2, h3, h4]
      · have hr : chk w hh o n nd = 1 := by simp only [chk, dims, h3, and_false, not_false_eq_true, if_true]
        rw [hr]
        simp (disch := first | omega | decide | assumption | simp [scal]) [runOps_nil, runOps_cons, runOpsF_nil, runOpsF_cons, fstS_some, fstF_some, opStep_eq, want_none, oStep_true, oStep_false, fin_pure, fin_read, fin_alloc, fin_write, storeB, wrN, cellV, addWr, o_move, o_assign, o_pick, o_alloc, o_box, o_load, o_store, o_nilCheck, o_bin, o_un, o_extract, o_callV, o_callB, o_callI, callV_f, callV_y, callV_fc, o_makeFunc, partsA, Instr.fill, builtin_len, builtin_max2, bin_add, bin_sub, bin_mul, bin_quo, bin_rem, bin_lss, bin_leq, bin_gtr, bin_geq, bin_eql, bin_neq, un_neg, un_not, opd, opds, optAll, lk, putO, put, has, rep, nbeq, nblt, constOk, isC, ops, sub, cl, cr, co, bodyOf, thenS_normal, thenS_ret, thenS_exit, thenS_goto, afterN_normal, afterN_ret, afterN_exit, afterN_goto, condS_true, condS_false, blockS_normal, blockS_ret, blockS_exit, blockS_goto, loopS_exit, loopS_ret, plainS_some, drawS_some, fpsOk, disj, unord, mem, range', dropTo, enumT, undef, wrap_i64_id, Value.cells, mkCells, ptrTo, scal, cellsAt, rdN, endS_ret, resultsA, Option.bind_some, tupV, finish, reach, reachN, dep, ptrL_eq, ptrL, renL_eq, renL, ptrV_bool, ptrV_int, ptrV_string, ptrV_nilFunc, ptrV_nilIface, ptrV_nilPtr, ptrV_ptr, ptrV_nilSl, ptrV_sl, ptrV_iface, ptrV_agg, ptrV_tuple, ptrV_func, renV_bool, renV_int, renV_string, renV_nilFunc, renV_nilIface, renV_nilPtr, renV_ptr, renV_nilSl, renV_sl, renV_iface, renV_agg, renV_tuple, renV_func, o_fieldAddr fa_24_0 (by decide), loadA_eq ia_3, o_fieldAddr fa_24_1 (by decide), o_fieldAddr fa_24_2 (by decide), o_fieldAddr fa_24_3 (by decide), loadA_eq ia_22, lenA_sl lk_22, o_indexAddrS es_22, loadA_eq ia_24, n17_1s, n17_5s, n17_8s, n17_9s, n17_7s, n17_11s, n17_14s, n17_15s, n17_13s, n17_16s, n17_12s, n17_10s, n17_6s, n17_4s, n17_3s, n17_19s, n17_23s, n17_26s, n17_27s, n17_25s, n17_31s, n17_33s, n17_36s, n17_37s, n17_35s, n17_38s, n17_34s, n17_32s, n17_30s, n17_29s, n17_39s, n17_28s, n17_24s, n17_22s, n17_20s, n17_18s, n17_42s, n17_46s, n17_49s, n17_50s, n17_48s, n17_54s, n17_56s, n17_58s, n17_61s, n17_62s, n17_60s, n17_63s, n17_59s, n17_57s, n17_55s, n17_53s, n17_52s, n17_64s, n17_51s, n17_47s, n17_45s, n17_43s, n17_41s, n17_66s, n17_67s, n17_65s, n17_40s, n17_17s, n17_2s, n17_0s, want_some q17_5g4, want_some q17_5g10, want_some q17_58g2, want_some q17_58g14, want_some q17_58g17, Try.f17, k36, h1, h2, and_dec h3]
    · have hr : chk w hh o n nd = 1 := by simp only [chk, dims, h2, and_false, false_and, not_false_eq_true, if_true]
      rw [hr]
      simp (disch := first | omega | decide | assumption | simp [scal]) [runOps_nil, runOps_cons, runOpsF_nil, runOpsF_cons, fstS_some, fstF_some, opStep_eq, want_none, oStep_true, oStep_false, fin_pure, fin_read, fin_alloc, fin_write, storeB, wrN, cellV, addWr, o_move, o_assign, o_pick, o_alloc, o_box, o_load, o_store, o_nilCheck, o_bin, o_un, o_extract, o_callV, o_callB, o_callI, callV_f, callV_y, callV_fc, o_makeFunc, partsA, Instr.fill, builtin_len, builtin_max2, bin_add, bin_sub, bin_mul, bin_quo, bin_rem, bin_lss, bin_leq, bin_gtr, bin_geq, bin_eql, bin_neq, un_neg, un_not, opd, opds, optAll, lk, putO, put, has, rep, nbeq, nblt, constOk, isC, ops, sub, cl, cr, co, bodyOf, thenS_normal, thenS_ret, thenS_exit, thenS_goto, afterN_normal, afterN_ret, afterN_exit, afterN_goto, condS_true, condS_false, blockS_normal, blockS_ret, blockS_exit, blockS_goto, loopS_exit, loopS_ret, plainS_some, drawS_some, fpsOk, disj, unord, mem, range', dropTo, enumT, undef, wrap_i64_id, Value.cells, mkCells, ptrTo, scal, cellsAt, rdN, endS_ret, resultsA, Option.bind_some, tupV, finish, reach, reachN, dep, ptrL_eq, ptrL, renL_eq, renL, ptrV_bool, ptrV_int, ptrV_string, ptrV_nilFunc, ptrV_nilIface, ptrV_nilPtr, ptrV_ptr, ptrV_nilSl, ptrV_sl, ptrV_iface, ptrV_agg, ptrV_tuple, ptrV_func, renV_bool, renV_int, renV_string, renV_nilFunc, renV_nilIface, renV_nilPtr, renV_ptr, renV_nilSl, renV_sl, renV_iface, renV_agg, renV_tuple, renV_func, o_fieldAddr fa_24_0 (by decide), loadA_eq ia_3, o_fieldAddr fa_24_1 (by decide), o_fieldAddr fa_24_2 (by decide), o_fieldAddr fa_24_3 (by decide), loadA_eq ia_22, lenA_sl lk_22, o_indexAddrS es_22, loadA_eq ia_24, n17_1s, n17_5s, n17_8s, n17_9s, n17_7s, n17_11s, n17_14s, n17_15s, n17_13s, n17_16s, n17_12s, n17_10s, n17_6s, n17_4s, n17_3s, n17_19s, n17_23s, n17_26s, n17_27s, n17_25s, n17_31s, n17_33s, n17_36s, n17_37s, n17_35s, n17_38s, n17_34s, n17_32s, n17_30s, n17_29s, n17_39s, n17_28s, n17_24s, n17_22s, n17_20s, n17_18s, n17_42s, n17_46s, n17_49s, n17_50s, n17_48s, n17_54s, n17_56s, n17_58s, n17_61s, n17_62s, n17_60s, n17_63s, n17_59s, n17_57s, n17_55s, n17_53s, n17_52s, n17_64s, n17_51s, n17_47s, n17_45s, n17_43s, n17_41s, n17_66s, n17_67s, n17_65s, n17_40s, n17_17s, n17_2s, n17_0s, want_some q17_5g4, want_some q17_5g10, want_some q17_58g2, want_some q17_58g14, want_some q17_58g17, Try.f17, k36, h1, and_dec h2]
  · have hr : chk w hh o n nd = 1 := by simp only [chk, dims, h1, and_false, false_and, not_false_eq_true, if_true]
    rw [hr]
    simp (disch := first | omega | decide | assumption | simp [scal]) [runOps_nil, runOps_cons, runOpsF_nil, runOpsF_cons, fstS_some, fstF_some, opStep_eq, want_none, oStep_true, oStep_false, fin_pure, fin_read, fin_alloc, fin_write, storeB, wrN, cellV, addWr, o_move, o_assign, o_pick, o_alloc, o_box, o_load, o_store, o_nilCheck, o_bin, o_un, o_extract, o_callV, o_callB, o_callI, callV_f, callV_y, callV_fc, o_makeFunc, partsA, Instr.fill, builtin_len, builtin_max2, bin_add, bin_sub, bin_mul, bin_quo, bin_rem, bin_lss, bin_leq, bin_gtr, bin_geq, bin_eql, bin_neq, un_neg, un_not, opd, opds, optAll, lk, putO, put, has, rep, nbeq, nblt, constOk, isC, ops, sub, cl, cr, co, bodyOf, thenS_normal, thenS_ret, thenS_exit, thenS_goto, afterN_normal, afterN_ret, afterN_exit, afterN_goto, condS_true, condS_false, blockS_normal, blockS_ret, blockS_exit, blockS_goto, loopS_exit, loopS_ret, plainS_some, drawS_some, fpsOk, disj, unord, mem, range', dropTo, enumT, undef, wrap_i64_id, Value.cells, mkCells, ptrTo, scal, cellsAt, rdN, endS_ret, resultsA, Option.bind_some, tupV, finish, reach, reachN, dep, ptrL_eq, ptrL, renL_eq, renL, ptrV_bool, ptrV_int, ptrV_string, ptrV_nilFunc, ptrV_nilIface, ptrV_nilPtr, ptrV_ptr, ptrV_nilSl, ptrV_sl, ptrV_iface, ptrV_agg, ptrV_tuple, ptrV_func, renV_bool, renV_int, renV_string, renV_nilFunc, renV_nilIface, renV_nilPtr, renV_ptr, renV_nilSl, renV_sl, renV_iface, renV_agg, renV_tuple, renV_func, o_fieldAddr fa_24_0 (by decide), loadA_eq ia_3, o_fieldAddr fa_24_1 (by decide), o_fieldAddr fa_24_2 (by decide), o_fieldAddr fa_24_3 (by decide), loadA_eq ia_22, lenA_sl lk_22, o_indexAddrS es_22, loadA_eq ia_24, n17_1s, n17_5s, n17_8s, n17_9s, n17_7s, n17_11s, n17_14s, n17_15s, n17_13s, n17_16s, n17_12s, n17_10s, n17_6s, n17_4s, n17_3s, n17_19s, n17_23s, n17_26s, n17_27s, n17_25s, n17_31s, n17_33s, n17_36s, n17_37s, n17_35s, n17_38s, n17_34s, n17_32s, n17_30s, n17_29s, n17_39s, n17_28s, n17_24s, n17_22s, n17_20s, n17_18s, n17_42s, n17_46s, n17_49s, n17_50s, n17_48s, n17_54s, n17_56s, n17_58s, n17_61s, n17_62s, n17_60s, n17_63s, n17_59s, n17_57s, n17_55s, n17_53s, n17_52s, n17_64s, n17_51s, n17_47s, n17_45s, n17_43s, n17_41s, n17_66s, n17_67s, n17_65s, n17_40s, n17_17s, n17_2s, n17_0s, want_some q17_5g4, want_some q17_5g10, want_some q17_58g2, want_some q17_58g14, want_some q17_58g17, Try.f17, k36, and_dec h1]
end Go.Proofs.Ytgpcjdhlijompaa.ore
namespace Go.Proofs.Ytgpcjdhlijompaa.ore
open Go.GE
set_option linter.unusedVariables false
set_option linter.unusedSimpArgs false
set_option maxRecDepth 100000
theorem sure_comm {o a b : Int} : sureS o (turnS a b) ↔ sureS o (turnS b a) := by unfold sureS turnS; omega
theorem _root_.Nat.mul_add_mod_of_lt' {y W x : Nat} (h : x < W) : (y * W + x) % W = x := by
  rw [Nat.mul_comm, Nat.mul_add_mod, Nat.mod_eq_of_lt h]
theorem _root_.Nat.mul_add_div_of_lt' {y W x : Nat} (h : x < W) : (y * W + x) / W = y := by
  rw [Nat.mul_comm, Nat.mul_add_div (by omega), Nat.div_eq_of_lt h, Nat.add_zero]
end Go.Proofs.Ytgpcjdhlijompaa.ore
namespace Go.Proofs.Ytgpcjdhlijompaa.ore
open Go.GE
set_option linter.unusedVariables false
set_option linter.unusedSimpArgs false
set_option maxRecDepth 100000
theorem k14 (h : List Blk) : callH LL 14 [] h = some ⟨.bool true, h, [], []⟩ := callH_plain (L_tab rfl) rfl rfl
theorem k17 (w hh o : Int) (b off n c : Nat) (nd : Nat → Int) {h : List Blk} {cs : List Value} {own : Bool} (hb : h[b]? = some (.cells cs 1 true own)) (hcs : ∀ i, i < n → cs[off + i]? = some (iv (nd i))) (hn : n ≤ 200) :
    callH LL 17 [fv w hh o b off n c] h = some ⟨iv (chk w hh o n nd), h, [b], []⟩ := callF hb rfl (c17 w hh o off n c cs own nd hcs hn) rfl
end Go.Proofs.Ytgpcjdhlijompaa.ore
namespace Go.Proofs.Ytgpcjdhlijompaa.ore
open Go.GE
set_option linter.unusedVariables false
set_option linter.unusedSimpArgs false
set_option maxRecDepth 100000
theorem ren_plains {f : Nat → Option Nat} {vs : List Value} (hv : vs.all plain = true) : optAll (renV f dep) vs = some vs := by
  induction vs with
  | nil => rfl
  | cons v vs ih =>
    simp only [List.all_cons, Bool.and_eq_true] at hv
    have e : renV f dep v = some v := renV_plain (d := 4) hv.1
    simp only [optAll, e, ih hv.2]
theorem ptr_plains {vs : List Value} (hv : vs.all plain = true) : vs.flatMap (ptrV dep) = [] := by
  induction vs with
  | nil => rfl
  | cons v vs ih =>
    simp only [List.all_cons, Bool.and_eq_true] at hv
    simp only [List.flatMap_cons, ih hv.2, List.append_nil]
    cases v with
    | agg cs =>
      have h' : cs.toList.all scal = true := hv.1
      exact ptrV_scal h'
    | tuple cs =>
      have h' : cs.toList.all scal = true := hv.1
      exact ptrV_scal h'
    | _ => have := hv.1; simp [plain, scal] at this <;> rfl
theorem ren_fv2 {w hh o : Int} {b off n c : Nat} {vs : List Value} (hv : vs.all plain = true) : optAll (renV (idx [b]) dep) (fv w hh o b off n c :: vs) = some (fv w hh o 0 off n c :: vs) := by
  have e : renV (idx [b]) dep (fv w hh o b off n c) = some (fv w hh o 0 off n c) := by
    simp [renV, dep, optAll, idx, nbeq]
  simp only [optAll, e, ren_plains hv]
theorem ptr_fv2 {w hh o : Int} {b off n c : Nat} {vs : List Value} (hv : vs.all plain = true) : (fv w hh o b off n c :: vs).flatMap (ptrV dep) = [b] := by
  simp only [List.flatMap_cons, ptr_plains hv, List.append_nil]
  simp [ptrV, dep]
theorem callG {f : FuncId} {w hh o : Int} {b off n c : Nat} {vs : List Value} {v : Value} {h : List Blk} {cs : List Value} {own : Bool} (hb : h[b]? = some (.cells cs 1 true own)) (hv : vs.all plain = true)
    (he : LL.run f (fv w hh o 0 off n c :: vs) [.cells cs 1 true own] = some ⟨v, [], []⟩) (hp : plain v = true) : callH LL f (fv w hh o b off n c :: vs) h = some ⟨v, h, [b], []⟩ :=
  callH_one (ptr_fv2 hv) hb (ren_fv2 hv) he hp
/-- a block's value -/
abbrev bv (X Y W H : Int) : Value := .agg #[iv X, iv Y, iv W, iv H]
def hasB (w hh X Y W H : Int) : Prop := (0 ≤ X ∧ X ≤ w - 2) ∧ (0 ≤ Y ∧ Y ≤ hh - 2) ∧ (1 ≤ W ∧ W ≤ w - 1 - X) ∧ (1 ≤ H ∧ H ≤ hh - 1 - Y)
instance (w hh X Y W H : Int) : Decidable (hasB w hh X Y W H) := inferInstanceAs (Decidable (_ ∧ _))
theorem k43 (w hh o : Int) (b off n c : Nat) (X Y W H : Int) {h : List Blk} {cs : List Value} {own : Bool} (hb : h[b]? = some (.cells cs 1 true own)) (h1 : 2 ≤ w ∧ w ≤ 9) (h2 : 2 ≤ hh ∧ hh ≤ 9) :
    callH LL 43 [fv w hh o b off n c, bv X Y W H] h = some ⟨.bool (decide (hasB w hh X Y W H)), h, [b], []⟩ := by
  refine callG hb rfl (go (by decide) ?_) rfl
  rw [run43 _ _ _ (by simp)]
  by_cases a1 : 0 ≤ X ∧ X ≤ w - 2
  · by_cases a2 : 0 ≤ Y ∧ Y ≤ hh - 2
    · by_cases a3 : 1 ≤ W ∧ W ≤ w - 1 - X
      · by_cases a4 : 1 ≤ H ∧ H ≤ hh - 1 - Y
        · have e : hasB w hh X Y W H := ⟨a1, a2, a3, a4⟩
          simp (disch := first | omega | decide | assumption | simp [scal]) [runOps_nil, runOps_cons, runOpsF_nil, runOpsF_cons, fstS_some, fstF_some, opStep_eq, want_none, oStep_true, oStep_false, fin_pure, fin_read, fin_alloc, fin_write, storeB, wrN, cellV, addWr, o_move, o_assign, o_pick, o_alloc, o_box, o_load, o_store, o_nilCheck, o_bin, o_un, o_extract, o_callV, o_callB, o_callI, callV_f, callV_y, callV_fc, o_makeFunc, partsA, Instr.fill, builtin_len, builtin_max2, bin_add, bin_sub, bin_mul, bin_quo, bin_rem, bin_lss, bin_leq, bin_gtr, bin_geq, bin_eql, bin_neq, un_neg, un_not, opd, opds, optAll, lk, putO, put, has, rep, nbeq, nblt, constOk, isC, ops, sub, cl, cr, co, bodyOf, thenS_normal, thenS_ret, thenS_exit, thenS_goto, afterN_normal, afterN_ret, afterN_exit, afterN_goto, condS_true, condS_false, blockS_normal, blockS_ret, blockS_exit, blockS_goto, loopS_exit, loopS_ret, plainS_some, drawS_some, fpsOk, disj, unord, mem, range', dropTo, enumT, undef, wrap_i64_id, Value.cells, mkCells, ptrTo, scal, cellsAt, rdN, endS_ret, resultsA, Option.bind_some, tupV, finish, reach, reachN, dep, ptrL_eq, ptrL, renL_eq, renL, ptrV_bool, ptrV_int, ptrV_string, ptrV_nilFunc, ptrV_nilIface, ptrV_nilPtr, ptrV_ptr, ptrV_nilSl, ptrV_sl, ptrV_iface, ptrV_agg, ptrV_tuple, ptrV_func, renV_bool, renV_int, renV_string, renV_nilFunc, renV_nilIface, renV_nilPtr, renV_ptr, renV_nilSl, renV_sl, renV_iface, renV_agg, renV_tuple, renV_func, o_fieldAddr fa_35_0 (by decide), loadA_eq ia_3, o_fieldAddr fa_24_0 (by decide), o_fieldAddr fa_35_1 (by decide), o_fieldAddr fa_24_1 (by decide), o_fieldAddr fa_35_2 (by decide), o_fieldAddr fa_35_3 (by decide), n43_1s, n43_3s, n43_4s, n43_2s, n43_0s, want_some q43_3g6, want_some q43_3g14, want_some q43_3g25, Try.f43, k36, a1, a2, a3, a4, e]
        · have e : ¬ hasB w hh X Y W H := fun h => a4 h.2.2.2
          simp (disch := first | omega | decide | assumption | simp [scal]) [runOps_nil, runOps_cons, runOpsF_nil, runOpsF_cons, fstS_some, fstF_some, opStep_eq, want_none, oStep_true, oStep_false, fin_pure, fin_read, fin_alloc, fin_write, storeB, wrN, cellV, addWr, o_move, o_assign, o_pick, o_alloc, o_box, o_load, o_store, o_nilCheck, o_bin, o_un, o_extract, o_callV, o_callB, o_callI, callV_f, callV_y, callV_fc, o_makeFunc, partsA, Instr.fill, builtin_len, builtin_max2, bin_add, bin_sub, bin_mul, bin_quo, bin_rem, bin_lss, bin_leq, bin_gtr, bin_geq, bin_eql, bin_neq, un_neg, un_not, opd, opds, optAll, lk, putO, put, has, rep, nbeq, nblt, constOk, isC, ops, sub, cl, cr, co, bodyOf, thenS_normal, thenS_ret, thenS_exit, thenS_goto, afterN_normal, afterN_ret, afterN_exit, afterN_goto, condS_true, condS_false, blockS_normal, blockS_ret, blockS_exit, blockS_goto, loopS_exit, loopS_ret, plainS_some, drawS_some, fpsOk, disj, unord, mem, range', dropTo, enumT, undef, wrap_i64_id, Value.cells, mkCells, ptrTo, scal, cellsAt, rdN, endS_ret, resultsA, Option.bind_some, tupV, finish, reach, reachN, dep, ptrL_eq, ptrL, renL_eq, renL, ptrV_bool, ptrV_int, ptrV_string, ptrV_nilFunc, ptrV_nilIface, ptrV_nilPtr, ptrV_ptr, ptrV_nilSl, ptrV_sl, ptrV_iface, ptrV_agg, ptrV_tuple, ptrV_func, renV_bool, renV_int, renV_string, renV_nilFunc, renV_nilIface, renV_nilPtr, renV_ptr, renV_nilSl, renV_sl, renV_iface, renV_agg, renV_tuple, renV_func, o_fieldAddr fa_35_0 (by decide), loadA_eq ia_3, o_fieldAddr fa_24_0 (by decide), o_fieldAddr fa_35_1 (by decide), o_fieldAddr fa_24_1 (by decide), o_fieldAddr fa_35_2 (by decide), o_fieldAddr fa_35_3 (by decide), n43_1s, n43_3s, n43_4s, n43_2s, n43_0s, want_some q43_3g6, want_some q43_3g14, want_some q43_3g25, Try.f43, k36, a1, a2, a3, and_dec a4, e]
      · have e : ¬ hasB w hh X Y W H := fun h => a3 h.2.2.1
        simp (disch := first | omega | decide | assumption | simp [scal]) [runOps_nil, runOps_cons, runOpsF_nil, runOpsF_cons, fstS_some, fstF_some, opStep_eq, want_none, oStep_true, oStep_false, fin_pure, fin_read, fin_alloc, fin_write, storeB, wrN, cellV, addWr, o_move, o_assign, o_pick, o_alloc, o_box, o_load, o_store, o_nilCheck, o_bin, o_un, o_extract, o_callV, o_callB, o_callI, callV_f, callV_y, callV_fc, o_makeFunc, partsA, Instr.fill, builtin_len, builtin_max2, bin_add, bin_sub, bin_mul, bin_quo, bin_rem, bin_lss, bin_leq, bin_gtr, bin_geq, bin_eql, bin_neq, un_neg, un_not, opd, opds, optAll, lk, putO, put, has, rep, nbeq, nblt, constOk, isC, ops, sub, cl, cr, co, bodyOf, thenS_normal, thenS_ret, thenS_exit, thenS_goto, afterN_normal, afterN_ret, afterN_exit, afterN_goto, condS_true, condS_false, blockS_normal, blockS_ret, blockS_exit, blockS_goto, loopS_exit, loopS_ret, plainS_some, drawS_some, fpsOk, disj, unord, mem, range', dropTo, enumT, undef, wrap_i64_id, Value.cells, mkCells, ptrTo, scal, cellsAt, rdN, endS_ret, resultsA, Option.bind_some, tupV, finish, reach, reachN, dep, ptrL_eq, ptrL, renL_eq, renL, ptrV_bool, ptrV_int, ptrV_string, ptrV_nilFunc, ptrV_nilIface, ptrV_nilPtr, ptrV_ptr, ptrV_nilSl, ptrV_sl, ptrV_iface, ptrV_agg, ptrV_tuple, ptrV_func, renV_bool, renV_int, renV_string, renV_nilFunc, renV_nilIface, renV_nilPtr, renV_ptr, renV_nilSl, renV_sl, renV_iface, renV_agg, renV_tuple, renV_func, o_fieldAddr fa_35_0 (by decide), loadA_eq ia_3, o_fieldAddr fa_24_0 (by decide), o_fieldAddr fa_35_1 (by decide), o_fieldAddr fa_24_1 (by decide), o_fieldAddr fa_35_2 (by decide), o_fieldAddr fa_35_3 (by decide), n43_1s, n43_3s, n43_4s, n43_2s, n43_0s, want_some q43_3g6, want_some q43_3g14, want_some q43_3g25, Try.f43, k36, a1, a2, and_dec a3, e]
    · have e : ¬ hasB w hh X Y W H := fun h => a2 h.2.1
      simp (disch := first | omega | decide | assumption | simp [scal]) [runOps_nil, runOps_cons, runOpsF_nil, runOpsF_cons, fstS_some, fstF_some, opStep_eq, want_none, oStep_true, oStep_false, fin_pure, fin_read, fin_alloc, fin_write, storeB, wrN, cellV, addWr, o_move, o_assign, o_pick, o_alloc, o_box, o_load, o_store, o_nilCheck, o_bin, o_un, o_extract, o_callV, o_callB, o_callI, callV_f, callV_y, callV_fc, o_makeFunc, partsA, Instr.fill, builtin_len, builtin_max2, bin_add, bin_sub, bin_mul, bin_quo, bin_rem, bin_lss, bin_leq, bin_gtr, bin_geq, bin_eql, bin_neq, un_neg, un_not, opd, opds, optAll, lk, putO, put, has, rep, nbeq, nblt, constOk, isC, ops, sub, cl, cr, co, bodyOf, thenS_normal, thenS_ret, thenS_exit, thenS_goto, afterN_normal, afterN_ret, afterN_exit, afterN_goto, condS_true, condS_false, blockS_normal, blockS_ret, blockS_exit, blockS_goto, loopS_exit, loopS_ret, plainS_some, drawS_some, fpsOk, disj, unord, mem, range', dropTo, enumT, undef, wrap_i64_id, Value.cells, mkCells, ptrTo, scal, cellsAt, rdN, endS_ret, resultsA, Option.bind_some, tupV, finish, reach, reachN, dep, ptrL_eq, ptrL, renL_eq, renL, ptrV_bool, ptrV_int, ptrV_string, ptrV_nilFunc, ptrV_nilIface, ptrV_nilPtr, ptrV_ptr, ptrV_nilSl, ptrV_sl, ptrV_iface, ptrV_agg, ptrV_tuple, ptrV_func, renV_bool, renV_int, renV_string, renV_nilFunc, renV_nilIface, renV_nilPtr, renV_ptr, renV_nilSl, renV_sl, renV_iface, renV_agg, renV_tuple, renV_func, o_fieldAddr fa_35_0 (by decide), loadA_eq ia_3, o_fieldAddr fa_24_0 (by decide), o_fieldAddr fa_35_1 (by decide), o_fieldAddr fa_24_1 (by decide), o_fieldAddr fa_35_2 (by decide), o_fieldAddr fa_35_3 (by decide), n43_1s, n43_3s, n43_4s, n43_2s, n43_0s, want_some q43_3g6, want_some q43_3g14, want_some q43_3g25, Try.f43, k36, a1, and_dec a2, e]
  · have e : ¬ hasB w hh X Y W H := fun h => a1 h.1
    simp (disch := first | omega | decide | assumption | simp [scal]) [runOps_nil, runOps_cons, runOpsF_nil, runOpsF_cons, fstS_some, fstF_some, opStep_eq, want_none, oStep_true, oStep_false, fin_pure, fin_read, fin_alloc, fin_write, storeB, wrN, cellV, addWr, o_move, o_assign, o_pick, o_alloc, o_box, o_load, o_store, o_nilCheck, o_bin, o_un, o_extract, o_callV, o_callB, o_callI, callV_f, callV_y, callV_fc, o_makeFunc, partsA, Instr.fill, builtin_len, builtin_max2, bin_add, bin_sub, bin_mul, bin_quo, bin_rem, bin_lss, bin_leq, bin_gtr, bin_geq, bin_eql, bin_neq, un_neg, un_not, opd, opds, optAll, lk, putO, put, has, rep, nbeq, nblt, constOk, isC, ops, sub, cl, cr, co, bodyOf, thenS_normal, thenS_ret, thenS_exit, thenS_goto, afterN_normal, afterN_ret, afterN_exit, afterN_goto, condS_true, condS_false, blockS_normal, blockS_ret, blockS_exit, blockS_goto, loopS_exit, loopS_ret, plainS_some, drawS_some, fpsOk, disj, unord, mem, range', dropTo, enumT, undef, wrap_i64_id, Value.cells, mkCells, ptrTo, scal, cellsAt, rdN, endS_ret, resultsA, Option.bind_some, tupV, finish, reach, reachN, dep, ptrL_eq, ptrL, renL_eq, renL, ptrV_bool, ptrV_int, ptrV_string, ptrV_nilFunc, ptrV_nilIface, ptrV_nilPtr, ptrV_ptr, ptrV_nilSl, ptrV_sl, ptrV_iface, ptrV_agg, ptrV_tuple, ptrV_func, renV_bool, renV_int, renV_string, renV_nilFunc, renV_nilIface, renV_nilPtr, renV_ptr, renV_nilSl, renV_sl, renV_iface, renV_agg, renV_tuple, renV_func, o_fieldAddr fa_35_0 (by decide), loadA_eq ia_3, o_fieldAddr fa_24_0 (by decide), o_fieldAddr fa_35_1 (by decide), o_fieldAddr fa_24_1 (by decide), o_fieldAddr fa_35_2 (by decide), o_fieldAddr fa_35_3 (by decide), n43_1s, n43_3s, n43_4s, n43_2s, n43_0s, want_some q43_3g6, want_some q43_3g14, want_some q43_3g25, Try.f43, k36, and_dec a1, e]
/-- the loop's block -/
noncomputable def lp44 (a b : Nat) : ALoop := ⟨.ready, none, 44, [(6, .pointer (some ⟨a, 0, none⟩)), (5, .pointer (some ⟨b, 0, none⟩))], 22, #[11], n44_9, n44_10⟩
def c1 (n : Int) : Blk := .cells [iv n] 1 true true
def yw (l : Int) : List Nat := if l < 0 then [0, 1] else [0, 2, 1]
theorem r44 (l s n : Int) (hl : l = -1 ∨ isN l) (hn : isN n) (hs : -1000000 ≤ s ∧ s ≤ 1000000) :
    LL.rnd 0 [iv n] [.loop (lp44 1 2), c1 l, c1 s] = some ⟨.bool true, [], if l < 0 then [(0, .loop (lp44 1 2)), (1, c1 n)] else [(0, .loop (lp44 1 2)), (2, c1 (s + turnS l n)), (1, c1 n)]⟩ := by
  refine L_rnd ?_
  have ts := turnS_small l n
  have e1 : codeB Try.prog LL ⟨44, 22, 3, some 0⟩ n44_9 ⟨[(11, iv n), (6, .pointer (some ⟨1, 0, none⟩)), (5, .pointer (some ⟨2, 0, none⟩))], [.loop (lp44 1 2), c1 l, c1 s], []⟩ =
      some (.normal, ⟨[(7, iv n), (11, iv n), (6, .pointer (some ⟨1, 0, none⟩)), (5, .pointer (some ⟨2, 0, none⟩))], [.loop (lp44 1 2), c1 l, c1 s], []⟩) := by
    simp (disch := first | omega | decide | assumption | simp [scal]) [runOps_nil, runOps_cons, runOpsF_nil, runOpsF_cons, fstS_some, fstF_some, opStep_eq, want_none, oStep_true, oStep_false, fin_pure, fin_read, fin_alloc, fin_write, storeB, wrN, cellV, addWr, o_move, o_assign, o_pick, o_alloc, o_box, o_load, o_store, o_nilCheck, o_bin, o_un, o_extract, o_callV, o_callB, o_callI, callV_f, callV_y, callV_fc, o_makeFunc, partsA, Instr.fill, builtin_len, builtin_max2, bin_add, bin_sub, bin_mul, bin_quo, bin_rem, bin_lss, bin_leq, bin_gtr, bin_geq, bin_eql, bin_neq, un_neg, un_not, opd, opds, optAll, lk, putO, put, has, rep, nbeq, nblt, constOk, isC, ops, sub, cl, cr, co, bodyOf, thenS_normal, thenS_ret, thenS_exit, thenS_goto, afterN_normal, afterN_ret, afterN_exit, afterN_goto, condS_true, condS_false, blockS_normal, blockS_ret, blockS_exit, blockS_goto, loopS_exit, loopS_ret, plainS_some, drawS_some, fpsOk, disj, unord, mem, range', dropTo, enumT, undef, wrap_i64_id, Value.cells, mkCells, ptrTo, scal, cellsAt, rdN, endS_ret, resultsA, Option.bind_some, tupV, finish, reach, reachN, dep, ptrL_eq, ptrL, renL_eq, renL, ptrV_bool, ptrV_int, ptrV_string, ptrV_nilFunc, ptrV_nilIface, ptrV_nilPtr, ptrV_ptr, ptrV_nilSl, ptrV_sl, ptrV_iface, ptrV_agg, ptrV_tuple, ptrV_func, renV_bool, renV_int, renV_string, renV_nilFunc, renV_nilIface, renV_nilPtr, renV_ptr, renV_nilSl, renV_sl, renV_iface, renV_agg, renV_tuple, renV_func, za_3, sz_3, loadA_eq ia_24, loadA_eq ia_35, loadA_eq ia_3, n44_1s, n44_3s, n44_6s, n44_9s, n44_13s, n44_15s, n44_16s, n44_14s, n44_12s, n44_17s, n44_11s, n44_10s, n44_7s, n44_5s, n44_19s, n44_20s, n44_18s, n44_4s, n44_2s, n44_0s, Try.f44]
  have e2 : codeB Try.prog LL ⟨44, 22, 3, some 0⟩ n44_10 ⟨[(7, iv n), (11, iv n), (6, .pointer (some ⟨1, 0, none⟩)), (5, .pointer (some ⟨2, 0, none⟩))], [.loop { lp44 1 2 with state := .busy }, c1 l, c1 s], [0]⟩ =
      some (.normal, ⟨[(7, iv n), (11, iv n), (6, .pointer (some ⟨1, 0, none⟩)), (5, .pointer (some ⟨2, 0, none⟩))], if l < 0 then [.loop { lp44 1 2 with state := .busy }, c1 n, c1 s] else [.loop { lp44 1 2 with state := .busy }, c1 n, c1 (s + turnS l n)], if l < 0 then [0, 1] else [0, 2, 1]⟩) := by
    by_cases h0 : l < 0
    · have h0' : ¬ (0 ≤ l) := by omega
      simp only [h0, if_true]
      simp (disch := first | omega | decide | assumption | simp [scal]) [runOps_nil, runOps_cons, runOpsF_nil, runOpsF_cons, fstS_some, fstF_some, opStep_eq, want_none, oStep_true, oStep_false, fin_pure, fin_read, fin_alloc, fin_write, storeB, wrN, cellV, addWr, o_move, o_assign, o_pick, o_alloc, o_box, o_load, o_store, o_nilCheck, o_bin, o_un, o_extract, o_callV, o_callB, o_callI, callV_f, callV_y, callV_fc, o_makeFunc, partsA, Instr.fill, builtin_len, builtin_max2, bin_add, bin_sub, bin_mul, bin_quo, bin_rem, bin_lss, bin_leq, bin_gtr, bin_geq, bin_eql, bin_neq, un_neg, un_not, opd, opds, optAll, lk, putO, put, has, rep, nbeq, nblt, constOk, isC, ops, sub, cl, cr, co, bodyOf, thenS_normal, thenS_ret, thenS_exit, thenS_goto, afterN_normal, afterN_ret, afterN_exit, afterN_goto, condS_true, condS_false, blockS_normal, blockS_ret, blockS_exit, blockS_goto, loopS_exit, loopS_ret, plainS_some, drawS_some, fpsOk, disj, unord, mem, range', dropTo, enumT, undef, wrap_i64_id, Value.cells, mkCells, ptrTo, scal, cellsAt, rdN, endS_ret, resultsA, Option.bind_some, tupV, finish, reach, reachN, dep, ptrL_eq, ptrL, renL_eq, renL, ptrV_bool, ptrV_int, ptrV_string, ptrV_nilFunc, ptrV_nilIface, ptrV_nilPtr, ptrV_ptr, ptrV_nilSl, ptrV_sl, ptrV_iface, ptrV_agg, ptrV_tuple, ptrV_func, renV_bool, renV_int, renV_string, renV_nilFunc, renV_nilIface, renV_nilPtr, renV_ptr, renV_nilSl, renV_sl, renV_iface, renV_agg, renV_tuple, renV_func, za_3, sz_3, loadA_eq ia_24, loadA_eq ia_35, loadA_eq ia_3, n44_1s, n44_3s, n44_6s, n44_9s, n44_13s, n44_15s, n44_16s, n44_14s, n44_12s, n44_17s, n44_11s, n44_10s, n44_7s, n44_5s, n44_19s, n44_20s, n44_18s, n44_4s, n44_2s, n44_0s, Try.f44, c1, h0', ins]
    · have h0' : 0 ≤ l := by omega
      have hk := k37 l n (by rcases hl with h | h <;> first | omega | exact h) hn
      simp only [h0, if_false]
      simp (disch := first | omega | decide | assumption | simp [scal]) [runOps_nil, runOps_cons, runOpsF_nil, runOpsF_cons, fstS_some, fstF_some, opStep_eq, want_none, oStep_true, oStep_false, fin_pure, fin_read, fin_alloc, fin_write, storeB, wrN, cellV, addWr, o_move, o_assign, o_pick, o_alloc, o_box, o_load, o_store, o_nilCheck, o_bin, o_un, o_extract, o_callV, o_callB, o_callI, callV_f, callV_y, callV_fc, o_makeFunc, partsA, Instr.fill, builtin_len, builtin_max2, bin_add, bin_sub, bin_mul, bin_quo, bin_rem, bin_lss, bin_leq, bin_gtr, bin_geq, bin_eql, bin_neq, un_neg, un_not, opd, opds, optAll, lk, putO, put, has, rep, nbeq, nblt, constOk, isC, ops, sub, cl, cr, co, bodyOf, thenS_normal, thenS_ret, thenS_exit, thenS_goto, afterN_normal, afterN_ret, afterN_exit, afterN_goto, condS_true, condS_false, blockS_normal, blockS_ret, blockS_exit, blockS_goto, loopS_exit, loopS_ret, plainS_some, drawS_some, fpsOk, disj, unord, mem, range', dropTo, enumT, undef, wrap_i64_id, Value.cells, mkCells, ptrTo, scal, cellsAt, rdN, endS_ret, resultsA, Option.bind_some, tupV, finish, reach, reachN, dep, ptrL_eq, ptrL, renL_eq, renL, ptrV_bool, ptrV_int, ptrV_string, ptrV_nilFunc, ptrV_nilIface, ptrV_nilPtr, ptrV_ptr, ptrV_nilSl, ptrV_sl, ptrV_iface, ptrV_agg, ptrV_tuple, ptrV_func, renV_bool, renV_int, renV_string, renV_nilFunc, renV_nilIface, renV_nilPtr, renV_ptr, renV_nilSl, renV_sl, renV_iface, renV_agg, renV_tuple, renV_func, za_3, sz_3, loadA_eq ia_24, loadA_eq ia_35, loadA_eq ia_3, n44_1s, n44_3s, n44_6s, n44_9s, n44_13s, n44_15s, n44_16s, n44_14s, n44_12s, n44_17s, n44_11s, n44_10s, n44_7s, n44_5s, n44_19s, n44_20s, n44_18s, n44_4s, n44_2s, n44_0s, Try.f44, c1, h0', ins, hk]
  rw [rnd_step (lp := lp44 1 2) (l1 := lp44 1 2) (l2 := { lp44 1 2 with state := .busy }) rfl rfl rfl rfl rfl e1 rfl rfl e2 (by split <;> rfl)]
  by_cases h0 : l < 0
  · simp only [h0, if_true]
    simp (disch := first | omega | decide | assumption | simp [scal]) [runOps_nil, runOps_cons, runOpsF_nil, runOpsF_cons, fstS_some, fstF_some, opStep_eq, want_none, oStep_true, oStep_false, fin_pure, fin_read, fin_alloc, fin_write, storeB, wrN, cellV, addWr, o_move, o_assign, o_pick, o_alloc, o_box, o_load, o_store, o_nilCheck, o_bin, o_un, o_extract, o_callV, o_callB, o_callI, callV_f, callV_y, callV_fc, o_makeFunc, partsA, Instr.fill, builtin_len, builtin_max2, bin_add, bin_sub, bin_mul, bin_quo, bin_rem, bin_lss, bin_leq, bin_gtr, bin_geq, bin_eql, bin_neq, un_neg, un_not, opd, opds, optAll, lk, putO, put, has, rep, nbeq, nblt, constOk, isC, ops, sub, cl, cr, co, bodyOf, thenS_normal, thenS_ret, thenS_exit, thenS_goto, afterN_normal, afterN_ret, afterN_exit, afterN_goto, condS_true, condS_false, blockS_normal, blockS_ret, blockS_exit, blockS_goto, loopS_exit, loopS_ret, plainS_some, drawS_some, fpsOk, disj, unord, mem, range', dropTo, enumT, undef, wrap_i64_id, Value.cells, mkCells, ptrTo, scal, cellsAt, rdN, endS_ret, resultsA, Option.bind_some, tupV, finish, reach, reachN, dep, ptrL_eq, ptrL, renL_eq, renL, ptrV_bool, ptrV_int, ptrV_string, ptrV_nilFunc, ptrV_nilIface, ptrV_nilPtr, ptrV_ptr, ptrV_nilSl, ptrV_sl, ptrV_iface, ptrV_agg, ptrV_tuple, ptrV_func, renV_bool, renV_int, renV_string, renV_nilFunc, renV_nilIface, renV_nilPtr, renV_ptr, renV_nilSl, renV_sl, renV_iface, renV_agg, renV_tuple, renV_func, loadA_eq ia_59, za_24, sz_24, loadA_eq ia_24, loadA_eq ia_60, za_35, sz_35, loadA_eq ia_35, o_fieldAddr fa_35_2 (by decide), loadA_eq ia_3, o_fieldAddr fa_35_3 (by decide), o_fieldAddr fa_35_0 (by decide), o_fieldAddr fa_35_1 (by decide), o_fieldAddr fa_24_0 (by decide), o_fieldAddr fa_24_1 (by decide), o_fieldAddr fa_24_2 (by decide), o_fieldAddr fa_24_3 (by decide), loadA_eq ia_22, lenA_sl lk_22, o_indexAddrS es_22, o_fieldAddr fa_89_0 (by decide), o_indexAddrA ea_83, o_indexAddrA ea_82, o_build za_35 pl_35, o_fieldAddr fa_89_1 (by decide), o_indexAddrA ea_87, o_indexAddrA ea_86, loadA_eq ia_85, o_fieldAddr fa_59_0 (by decide), loadA_eq ia_5, o_convI cv_5_3, o_fieldAddr fa_59_1 (by decide), o_fieldAddr fa_59_2 (by decide), o_build za_24 pl_24, o_fieldAddr fa_59_3 (by decide), loadA_eq ia_57, lenA_sl lk_57, o_indexAddrS es_57, ze_22, o_buildSlice es_22 ze_22 (by decide) ba_22_1, ap_22, builtin_append ni_22, sz_22, o_indexAddrA ea_60, za_3, sz_3, za_89, o_build za_89 pl_89, za_90, sz_90, za_79, sz_79, loadA_eq ia_79, loadA_eq ia_90, lenA_sl lk_101, o_indexAddrS es_101, sz_85, o_mkI ii_93, ze_101, o_buildSlice es_101 ze_101 (by decide) ba_101_1, ap_101, builtin_append ni_101, o_mkI ii_94, za_103, o_build za_103 pl_103, o_indexAddrS es_104, ze_104, o_buildSlice es_104 ze_104 (by decide) ba_104_4, lenA_sl lk_104, loadA_eq ia_103, sz_103, o_fieldAddr fa_103_2 (by decide), o_fieldAddr fa_103_0 (by decide), o_fieldAddr fa_103_1 (by decide), ins, optAll, c1, ptrB, renB, lp44, ptrT, renT]
  · simp only [h0, if_false]
    simp (disch := first | omega | decide | assumption | simp [scal]) [runOps_nil, runOps_cons, runOpsF_nil, runOpsF_cons, fstS_some, fstF_some, opStep_eq, want_none, oStep_true, oStep_false, fin_pure, fin_read, fin_alloc, fin_write, storeB, wrN, cellV, addWr, o_move, o_assign, o_pick, o_alloc, o_box, o_load, o_store, o_nilCheck, o_bin, o_un, o_extract, o_callV, o_callB, o_callI, callV_f, callV_y, callV_fc, o_makeFunc, partsA, Instr.fill, builtin_len, builtin_max2, bin_add, bin_sub, bin_mul, bin_quo, bin_rem, bin_lss, bin_leq, bin_gtr, bin_geq, bin_eql, bin_neq, un_neg, un_not, opd, opds, optAll, lk, putO, put, has, rep, nbeq, nblt, constOk, isC, ops, sub, cl, cr, co, bodyOf, thenS_normal, thenS_ret, thenS_exit, thenS_goto, afterN_normal, afterN_ret, afterN_exit, afterN_goto, condS_true, condS_false, blockS_normal, blockS_ret, blockS_exit, blockS_goto, loopS_exit, loopS_ret, plainS_some, drawS_some, fpsOk, disj, unord, mem, range', dropTo, enumT, undef, wrap_i64_id, Value.cells, mkCells, ptrTo, scal, cellsAt, rdN, endS_ret, resultsA, Option.bind_some, tupV, finish, reach, reachN, dep, ptrL_eq, ptrL, renL_eq, renL, ptrV_bool, ptrV_int, ptrV_string, ptrV_nilFunc, ptrV_nilIface, ptrV_nilPtr, ptrV_ptr, ptrV_nilSl, ptrV_sl, ptrV_iface, ptrV_agg, ptrV_tuple, ptrV_func, renV_bool, renV_int, renV_string, renV_nilFunc, renV_nilIface, renV_nilPtr, renV_ptr, renV_nilSl, renV_sl, renV_iface, renV_agg, renV_tuple, renV_func, loadA_eq ia_59, za_24, sz_24, loadA_eq ia_24, loadA_eq ia_60, za_35, sz_35, loadA_eq ia_35, o_fieldAddr fa_35_2 (by decide), loadA_eq ia_3, o_fieldAddr fa_35_3 (by decide), o_fieldAddr fa_35_0 (by decide), o_fieldAddr fa_35_1 (by decide), o_fieldAddr fa_24_0 (by decide), o_fieldAddr fa_24_1 (by decide), o_fieldAddr fa_24_2 (by decide), o_fieldAddr fa_24_3 (by decide), loadA_eq ia_22, lenA_sl lk_22, o_indexAddrS es_22, o_fieldAddr fa_89_0 (by decide), o_indexAddrA ea_83, o_indexAddrA ea_82, o_build za_35 pl_35, o_fieldAddr fa_89_1 (by decide), o_indexAddrA ea_87, o_indexAddrA ea_86, loadA_eq ia_85, o_fieldAddr fa_59_0 (by decide), loadA_eq ia_5, o_convI cv_5_3, o_fieldAddr fa_59_1 (by decide), o_fieldAddr fa_59_2 (by decide), o_build za_24 pl_24, o_fieldAddr fa_59_3 (by decide), loadA_eq ia_57, lenA_sl lk_57, o_indexAddrS es_57, ze_22, o_buildSlice es_22 ze_22 (by decide) ba_22_1, ap_22, builtin_append ni_22, sz_22, o_indexAddrA ea_60, za_3, sz_3, za_89, o_build za_89 pl_89, za_90, sz_90, za_79, sz_79, loadA_eq ia_79, loadA_eq ia_90, lenA_sl lk_101, o_indexAddrS es_101, sz_85, o_mkI ii_93, ze_101, o_buildSlice es_101 ze_101 (by decide) ba_101_1, ap_101, builtin_append ni_101, o_mkI ii_94, za_103, o_build za_103 pl_103, o_indexAddrS es_104, ze_104, o_buildSlice es_104 ze_104 (by decide) ba_104_4, lenA_sl lk_104, loadA_eq ia_103, sz_103, o_fieldAddr fa_103_2 (by decide), o_fieldAddr fa_103_0 (by decide), o_fieldAddr fa_103_1 (by decide), ins, optAll, c1, ptrB, renB, lp44, ptrT, renT]
end Go.Proofs.Ytgpcjdhlijompaa.ore
namespace Go.Proofs.Ytgpcjdhlijompaa.ore
open Go.GE
set_option linter.unusedVariables false
set_option linter.unusedSimpArgs false
set_option maxRecDepth 100000
def stp (p : Int × Int) (n : Int) : Int × Int := (n, if p.1 < 0 then p.2 else p.2 + turnS p.1 n)
theorem y56 (l s n : Int) (rest : List Blk) (hl : l = -1 ∨ isN l) (hn : isN n) (hs : -1000000 ≤ s ∧ s ≤ 1000000) :
    yieldH LL 0 [iv n] (.loop (lp44 1 2) :: c1 l :: c1 s :: rest) = some ⟨.bool true, .loop (lp44 1 2) :: c1 n :: c1 (stp (l, s) n).2 :: rest, [0, 1, 2], yw l⟩ := by
  have e := r44 l s n hl hn hs
  have hm : ∀ k : Nat, 10 < k → reach (.loop (lp44 1 2) :: c1 l :: c1 s :: rest) 0 k [0] [] = [0, 1, 2] := by
    intro k hk
    obtain ⟨k, rfl⟩ : ∃ j, k = j + 8 := ⟨k - 8, by omega⟩
    simp [reach, mem, nblt, nbeq, ptrB, lp44, ptrT, c1, ptrV_ptr, dep]
  unfold yieldH
  simp only [ptr_plains (vs := [iv n]) rfl, hm reachN (by decide)]
  simp only [ren_plains (vs := [iv n]) rfl]
  simp only [lp44, c1] at e ⊢
  by_cases h0 : l < 0
  · simp only [h0, if_true] at e
    simp [optAll, renB, renT, renV_ptr, dep, idx, nbeq, e, mergeB, renV_bool, nblt, stp, yw, h0]
  · simp only [h0, if_false] at e
    simp [optAll, renB, renT, renV_ptr, dep, idx, nbeq, e, mergeB, renV_bool, nblt, stp, yw, h0]
abbrev bb (X Y W H : Int) : Blk := .cells [iv X, iv Y, iv W, iv H] 1 true true
abbrev fb (w hh o : Int) (b off n c : Nat) : Blk := .cells [iv w, iv hh, iv o, .slice (some ⟨b, off, none⟩) n c] 1 false true
section
variable (w hh o : Int) (off n c : Nat) (X Y W H : Int) (cs : List Value) (own : Bool)
def S56 (i x y : Int) : Tm := [(26, iv i), (25, iv 4), (24, .slice (some ⟨6, 0, none⟩) 4 4), (23, .agg #[iv 0, iv (-1), iv H]), (22, iv H), (21, .pointer (some ⟨3, 3, none⟩)), (20, .agg #[iv (-1), iv 0, iv W]), (19, iv W), (18, .pointer (some ⟨3, 2, none⟩)),
  (17, .agg #[iv 0, iv 1, iv H]), (16, iv H), (15, .pointer (some ⟨3, 3, none⟩)), (14, .agg #[iv 1, iv 0, iv W]), (13, iv W), (12, .pointer (some ⟨3, 2, none⟩)), (5, iv y), (4, iv x), (11, iv Y), (10, .pointer (some ⟨3, 1, none⟩)), (9, iv X), (8, .pointer (some ⟨3, 0, none⟩)),
  (0, .func (.yield 0) #[] #[]), (1, .pointer (some ⟨3, 0, none⟩)), (2, .pointer (some ⟨4, 0, none⟩))]
def sides : Blk := .cells [iv 1, iv 0, iv W, iv 0, iv 1, iv H, iv (-1), iv 0, iv W, iv 0, iv (-1), iv H] 3 true true
noncomputable def H56 (p : Int × Int) (r : List Blk) : List Blk := .loop (lp44 1 2) :: c1 p.1 :: c1 p.2 :: bb X Y W H :: fb w hh o 5 off n c :: .cells cs 1 true own :: sides W H :: r
def I56 (i r nn dx dy x y : Int) (so : Nat) : Tm := (32, iv r) :: (31, iv nn) :: (30, .pointer (some ⟨7, 2, none⟩)) :: (7, .pointer (some ⟨7, 0, none⟩)) :: (29, .agg #[iv dx, iv dy, iv nn]) :: (28, .pointer (some ⟨6, so, none⟩)) :: (27, .bool true) :: S56 X Y W H i x y
theorem l56i (i dx dy : Int) (so nn : Nat) (px py : Nat → Int) (v : Nat → Int) (F : Nat → Int × Int) (Wr : Nat → List Nat) (hw : 0 ≤ w ∧ w ≤ 9) (hnn : nn ≤ 1000)
    (hx : ∀ r, px (r + 1) = px r + dx) (hy : ∀ r, py (r + 1) = py r + dy) (hF : ∀ r, F (r + 1) = stp (F r) (v r)) (hWr : ∀ r, Wr (r + 1) = addWr 6 (Wr r) (yw (F r).1))
    (hv : ∀ r, r < nn → small (px r) ∧ small (py r) ∧ isN (v r) ∧ ∃ j : Nat, py r * w + px r = j ∧ j < n ∧ cs[off + j]? = some (iv (v r)))
    (hp : ∀ r, r ≤ nn → ((F r).1 = -1 ∨ isN (F r).1) ∧ -1000000 ≤ (F r).2 ∧ (F r).2 ≤ 1000000) (hd : -1 ≤ dx ∧ dx ≤ 1) (hd' : -1 ≤ dy ∧ dy ≤ 1) : ∀ k r : Nat, r + k = nn →
    codeB Try.prog LL ⟨56, 57, 6, none⟩ n56_20 ⟨I56 X Y W H i r nn dx dy (px r) (py r) so, H56 w hh o off n c X Y W H cs own (F r) [.cells [iv dx, iv dy, iv nn] 1 true true], Wr r⟩ =
      some (.exit 2, ⟨(33, .bool false) :: I56 X Y W H i nn nn dx dy (px nn) (py nn) so, H56 w hh o off n c X Y W H cs own (F nn) [.cells [iv dx, iv dy, iv nn] 1 true true], Wr nn⟩) := by
  intro k
  induction k with
  | zero =>
    intro r hr
    obtain rfl : r = nn := by omega
    rw [n56_20s]
    simp only [I56, S56, H56]
    simp (disch := first | omega | decide | assumption | simp [scal]) [runOps_nil, runOps_cons, runOpsF_nil, runOpsF_cons, fstS_some, fstF_some, opStep_eq, want_none, oStep_true, oStep_false, fin_pure, fin_read, fin_alloc, fin_write, storeB, wrN, cellV, addWr, o_move, o_assign, o_pick, o_alloc, o_box, o_load, o_store, o_nilCheck, o_bin, o_un, o_extract, o_callV, o_callB, o_callI, callV_f, callV_y, callV_fc, o_makeFunc, partsA, Instr.fill, builtin_len, builtin_max2, bin_add, bin_sub, bin_mul, bin_quo, bin_rem, bin_lss, bin_leq, bin_gtr, bin_geq, bin_eql, bin_neq, un_neg, un_not, opd, opds, optAll, lk, putO, put, has, rep, nbeq, nblt, constOk, isC, ops, sub, cl, cr, co, bodyOf, thenS_normal, thenS_ret, thenS_exit, thenS_goto, afterN_normal, afterN_ret, afterN_exit, afterN_goto, condS_true, condS_false, blockS_normal, blockS_ret, blockS_exit, blockS_goto, loopS_exit, loopS_ret, plainS_some, drawS_some, fpsOk, disj, unord, mem, range', dropTo, enumT, undef, wrap_i64_id, Value.cells, mkCells, ptrTo, scal, cellsAt, rdN, endS_ret, resultsA, Option.bind_some, tupV, finish, reach, reachN, dep, ptrL_eq, ptrL, renL_eq, renL, ptrV_bool, ptrV_int, ptrV_string, ptrV_nilFunc, ptrV_nilIface, ptrV_nilPtr, ptrV_ptr, ptrV_nilSl, ptrV_sl, ptrV_iface, ptrV_agg, ptrV_tuple, ptrV_func, renV_bool, renV_int, renV_string, renV_nilFunc, renV_nilIface, renV_nilPtr, renV_ptr, renV_nilSl, renV_sl, renV_iface, renV_agg, renV_tuple, renV_func, o_fieldAddr fa_35_0 (by decide), loadA_eq ia_3, o_fieldAddr fa_35_1 (by decide), o_fieldAddr fa_35_2 (by decide), za_103, o_build za_103 pl_103, o_fieldAddr fa_35_3 (by decide), o_indexAddrS es_104, ze_104, o_buildSlice es_104 ze_104 (by decide) ba_104_4, lenA_sl lk_104, loadA_eq ia_103, sz_103, o_fieldAddr fa_103_2 (by decide), loadA_eq ia_24, o_fieldAddr fa_103_0 (by decide), o_fieldAddr fa_103_1 (by decide), n56_1s, n56_4s, n56_8s, n56_11s, n56_12s, n56_10s, n56_16s, n56_18s, n56_22s, n56_25s, n56_26s, n56_24s, n56_31s, n56_33s, n56_34s, n56_32s, n56_30s, n56_35s, n56_29s, n56_28s, n56_36s, n56_27s, n56_23s, n56_21s, n56_19s, n56_17s, n56_15s, n56_14s, n56_37s, n56_13s, n56_9s, n56_7s, n56_5s, n56_3s, n56_38s, n56_2s, n56_0s, Try.f56]
  | succ k ih =>
    intro r hr
    have e1 : r < nn := by omega
    obtain ⟨⟨x1, x2⟩, ⟨y1, y2⟩, e2, j, e3, e4, e5⟩ := hv r e1
    obtain ⟨p1, p2⟩ := hp r (by omega)
    have this := L_code (ih (r + 1) (by omega))
    have a1 := fun rest : List Blk => k41 w hh o 5 off n c (px r) (py r) j (h := .loop (lp44 1 2) :: c1 (F r).1 :: c1 (F r).2 :: bb X Y W H :: fb w hh o 5 off n c :: .cells cs 1 true own :: rest) rfl ⟨x1, x2⟩ ⟨y1, y2⟩ hw.1 hw.2 e3 e4 e5
    have a2 := fun rest : List Blk => y56 (F r).1 (F r).2 (v r) rest p1 e2 p2
    have hx' := hx r; have hy' := hy r
    rw [n56_20s]
    rw [hF, hWr, hx', hy'] at this
    have hf1 : (stp ((F r).1, (F r).2) (v r)).1 = v r := rfl
    have hf2 : (stp (F r) (v r)) = stp ((F r).1, (F r).2) (v r) := rfl
    rw [hf2] at this
    simp only [I56, S56, H56, cast1, hf1] at this ⊢
    simp (disch := first | omega | decide | assumption | simp [scal]) [runOps_nil, runOps_cons, runOpsF_nil, runOpsF_cons, fstS_some, fstF_some, opStep_eq, want_none, oStep_true, oStep_false, fin_pure, fin_read, fin_alloc, fin_write, storeB, wrN, cellV, addWr, o_move, o_assign, o_pick, o_alloc, o_box, o_load, o_store, o_nilCheck, o_bin, o_un, o_extract, o_callV, o_callB, o_callI, callV_f, callV_y, callV_fc, o_makeFunc, partsA, Instr.fill, builtin_len, builtin_max2, bin_add, bin_sub, bin_mul, bin_quo, bin_rem, bin_lss, bin_leq, bin_gtr, bin_geq, bin_eql, bin_neq, un_neg, un_not, opd, opds, optAll, lk, putO, put, has, rep, nbeq, nblt, constOk, isC, ops, sub, cl, cr, co, bodyOf, thenS_normal, thenS_ret, thenS_exit, thenS_goto, afterN_normal, afterN_ret, afterN_exit, afterN_goto, condS_true, condS_false, blockS_normal, blockS_ret, blockS_exit, blockS_goto, loopS_exit, loopS_ret, plainS_some, drawS_some, fpsOk, disj, unord, mem, range', dropTo, enumT, undef, wrap_i64_id, Value.cells, mkCells, ptrTo, scal, cellsAt, rdN, endS_ret, resultsA, Option.bind_some, tupV, finish, reach, reachN, dep, ptrL_eq, ptrL, renL_eq, renL, ptrV_bool, ptrV_int, ptrV_string, ptrV_nilFunc, ptrV_nilIface, ptrV_nilPtr, ptrV_ptr, ptrV_nilSl, ptrV_sl, ptrV_iface, ptrV_agg, ptrV_tuple, ptrV_func, renV_bool, renV_int, renV_string, renV_nilFunc, renV_nilIface, renV_nilPtr, renV_ptr, renV_nilSl, renV_sl, renV_iface, renV_agg, renV_tuple, renV_func, o_fieldAddr fa_35_0 (by decide), loadA_eq ia_3, o_fieldAddr fa_35_1 (by decide), o_fieldAddr fa_35_2 (by decide), za_103, o_build za_103 pl_103, o_fieldAddr fa_35_3 (by decide), o_indexAddrS es_104, ze_104, o_buildSlice es_104 ze_104 (by decide) ba_104_4, lenA_sl lk_104, loadA_eq ia_103, sz_103, o_fieldAddr fa_103_2 (by decide), loadA_eq ia_24, o_fieldAddr fa_103_0 (by decide), o_fieldAddr fa_103_1 (by decide), n56_1s, n56_4s, n56_8s, n56_11s, n56_12s, n56_10s, n56_16s, n56_18s, n56_22s, n56_25s, n56_26s, n56_24s, n56_31s, n56_33s, n56_34s, n56_32s, n56_30s, n56_35s, n56_29s, n56_28s, n56_36s, n56_27s, n56_23s, n56_21s, n56_19s, n56_17s, n56_15s, n56_14s, n56_37s, n56_13s, n56_9s, n56_7s, n56_5s, n56_3s, n56_38s, n56_2s, n56_0s, Try.f56, a1, a2, e1, loopS_same, this]
end
end Go.Proofs.Ytgpcjdhlijompaa.ore
namespace Go.Proofs.Ytgpcjdhlijompaa.ore
open Go.GE
set_option linter.unusedVariables false
set_option linter.unusedSimpArgs false
set_option maxRecDepth 100000
def runF (p : Int × Int) (v : Nat → Int) : Nat → Int × Int
  | 0 => p
  | r + 1 => stp (runF p v r) (v r)
def runW (p : Int × Int) (v : Nat → Int) (wr : List Nat) : Nat → List Nat
  | 0 => wr
  | r + 1 => addWr 6 (runW p v wr r) (yw (runF p v r).1)
def okP (B : Int) (p : Int × Int) : Prop := (p.1 = -1 ∨ isN p.1) ∧ -B ≤ p.2 ∧ p.2 ≤ B
theorem stp_ok {B : Int} {p : Int × Int} {n : Int} (h : okP B p) (hn : isN n) (hB : 0 ≤ B) : okP (B + 1800) (stp p n) := by
  obtain ⟨h1, h2, h3⟩ := h
  have ts := turnS_small p.1 n
  refine ⟨.inr hn, ?_, ?_⟩ <;> (unfold stp; simp only; split <;> omega)
theorem runF_ok {B : Int} {p : Int × Int} {v : Nat → Int} (h : okP B p) (hB : 0 ≤ B) : ∀ r : Nat, (∀ i, i < r → isN (v i)) → okP (B + 1800 * r) (runF p v r) := by
  intro r
  induction r with
  | zero => intro _; simpa [runF] using h
  | succ r ih =>
    intro hv
    have := stp_ok (ih fun i hi => hv i (by omega)) (hv r (by omega)) (by omega)
    have e : B + 1800 * ((r : Nat) : Int) + 1800 = B + 1800 * ((r + 1 : Nat) : Int) := by omega
    rw [e] at this
    exact this
theorem okP.mono {B C : Int} {p : Int × Int} (h : okP B p) (hBC : B ≤ C) : okP C p := ⟨h.1, by have := h.2.1; omega, by have := h.2.2; omega⟩
theorem addWr_full {l : Int} : addWr 6 [0, 1, 2] (yw l) = [0, 1, 2] := by
  unfold yw; split <;> rfl
theorem runW_full {p : Int × Int} {v : Nat → Int} : ∀ r, runW p v [0, 1, 2] r = [0, 1, 2] := by
  intro r
  induction r with
  | zero => rfl
  | succ r ih => simp only [runW, ih, addWr_full]
theorem runW_first {v : Nat → Int} (r : Nat) (hv : ∀ i, i < r + 1 → isN (v i)) : runW (-1, 0) v [] (r + 1) = [0, 1] ∨ runW (-1, 0) v [] (r + 1) = [0, 1, 2] := by
  induction r with
  | zero => left; rfl
  | succ r ih =>
    right
    have hpos : ¬ (runF (-1, 0) v (r + 1)).1 < 0 := by
      have := (hv r (by omega)).1
      show ¬ v r < 0
      omega
    have hy : yw (runF (-1, 0) v (r + 1)).1 = [0, 2, 1] := by unfold yw; rw [if_neg hpos]
    have e : runW (-1, 0) v [] (r + 1 + 1) = addWr 6 (runW (-1, 0) v [] (r + 1)) [0, 2, 1] := by rw [← hy]; rfl
    rw [e]
    rcases ih (fun i hi => hv i (by omega)) with h | h <;> rw [h] <;> rfl
theorem runW_from1 {p : Int × Int} {v : Nat → Int} (hp : isN p.1) {wr : List Nat} (hw : wr = [0, 1] ∨ wr = [0, 1, 2]) (r : Nat) (hv : ∀ i, i < r + 1 → isN (v i)) : runW p v wr (r + 1) = [0, 1, 2] := by
  have h0 : addWr 6 wr (yw p.1) = [0, 1, 2] := by
    have : ¬ p.1 < 0 := by have := hp.1; omega
    have hy : yw p.1 = [0, 2, 1] := by unfold yw; rw [if_neg this]
    rw [hy]
    rcases hw with rfl | rfl <;> rfl
  induction r with
  | zero => simpa [runW, runF] using h0
  | succ r ih =>
    have := ih fun i hi => hv i (by omega)
    show addWr 6 (runW p v wr (r + 1)) _ = _
    rw [this]
    exact addWr_full
section
variable (w hh o : Int) (off n c : Nat) (X Y : Int) (W H : Nat) (cs : List Value) (own : Bool)
theorem sw56 (i x y : Int) (p : Int × Int) (blk : Blk) (wr : List Nat) (hw : wr = [0, 1] ∨ wr = [0, 1, 2]) :
    sweep 6 ⟨S56 X Y W H i x y, H56 w hh o off n c X Y W H cs own p [blk], wr⟩ = some ⟨S56 X Y W H i x y, H56 w hh o off n c X Y W H cs own p [], wr⟩ := by
  have hr : ∀ r : List Nat, reach (H56 w hh o off n c X Y W H cs own p [blk]) 6 reachN (ptrT (S56 X Y W H i x y) ++ r) [] = reach (H56 w hh o off n c X Y W H cs own p [blk]) 6 (reachN - 10) r [6] := by
    intro r
    simp [reach, reachN, S56, H56, ptrT, ptrL_eq, ptrL, ptrV_int, ptrV_sl, ptrV_agg, ptrV_ptr, ptrV_bool, ptrV_func, dep, mem, nblt, nbeq, sides, ptrB, ptrFn]
  rcases hw with rfl | rfl
  · unfold sweep
    rw [hr]
    simp [reach, reachN, H56, S56, nblt, c1, ptrB, lp44, ptrT, ptrV_ptr, dep, mem, renT, renL_eq, renL, renV_int, renV_sl, renV_agg, renV_ptr, renV_func, renFn, optAll, renB, idx, nbeq, sides]
  · unfold sweep
    rw [hr]
    simp [reach, reachN, H56, S56, nblt, c1, ptrB, lp44, ptrT, ptrV_ptr, dep, mem, renT, renL_eq, renL, renV_int, renV_sl, renV_agg, renV_ptr, renV_func, renFn, optAll, renB, idx, nbeq, sides]
theorem loop56 (i x y : Int) (p : Int × Int) (blk : Blk) (wr : List Nat) (hw : wr = [0, 1] ∨ wr = [0, 1, 2]) (go : St → Res) (st : St) (σ : Tm) (hσ : dropTo st.σ.length σ = S56 X Y W H i x y) (hl : st.h.length = 7) :
    loopS go 6 (some (.normal, ⟨σ, H56 w hh o off n c X Y W H cs own p [blk], wr⟩)) st = go ⟨S56 X Y W H i x y, H56 w hh o off n c X Y W H cs own p [], wr⟩ := by
  have e : ¬ (H56 w hh o off n c X Y W H cs own p [blk]).length = st.h.length := by rw [hl]; simp [H56]
  simp only [loopS, e, if_false, hσ, sw56 w hh o off n c X Y W H cs own i x y p blk wr hw]
theorem l56_0 (px py v : Nat → Int) (p : Int × Int) (wr : List Nat) (hw : 0 ≤ w ∧ w ≤ 9) (hn : W ≤ 9) (hx : ∀ r, px (r + 1) = px r + (1)) (hy : ∀ r, py (r + 1) = py r + (0)) (hp : okP 500000 p)
    (hv : ∀ r, r < W → small (px r) ∧ small (py r) ∧ isN (v r) ∧ ∃ j : Nat, py r * w + px r = j ∧ j < n ∧ cs[off + j]? = some (iv (v r))) (hwr : runW p v wr W = [0, 1] ∨ runW p v wr W = [0, 1, 2]) {r : Ex × St}
    (hk : codeB Try.prog LL ⟨56, 57, 6, none⟩ n56_6 ⟨S56 X Y W H 1 (px W) (py W), H56 w hh o off n c X Y W H cs own (runF p v W) [], runW p v wr W⟩ = some r) :
    codeB Try.prog LL ⟨56, 57, 6, none⟩ n56_6 ⟨S56 X Y W H 0 (px 0) (py 0), H56 w hh o off n c X Y W H cs own p [], wr⟩ = some r := by
  have hpr : ∀ r, r ≤ W → ((runF p v r).1 = -1 ∨ isN (runF p v r).1) ∧ -1000000 ≤ (runF p v r).2 ∧ (runF p v r).2 ≤ 1000000 := by
    intro r hr
    have := (runF_ok hp (by omega) r fun i hi => (hv i (by omega)).2.2.1).mono (C := 1000000) (by omega)
    exact this
  have hl := l56i w hh o off n c X Y W H cs own 0 (1) (0) 0 W px py v (runF p v) (runW p v wr) hw (by omega) hx hy (fun _ => rfl) (fun _ => rfl) hv hpr (by omega) (by omega) W 0 (by omega)
  have hk' := L_code hk
  rw [n56_6s]
  simp only [I56, S56, H56, sides, Int.natCast_zero, runF, runW] at hl ⊢
  simp (disch := first | omega | decide | assumption | simp [scal]) [runOps_nil, runOps_cons, runOpsF_nil, runOpsF_cons, fstS_some, fstF_some, opStep_eq, want_none, oStep_true, oStep_false, fin_pure, fin_read, fin_alloc, fin_write, storeB, wrN, cellV, addWr, o_move, o_assign, o_pick, o_alloc, o_box, o_load, o_store, o_nilCheck, o_bin, o_un, o_extract, o_callV, o_callB, o_callI, callV_f, callV_y, callV_fc, o_makeFunc, partsA, Instr.fill, builtin_len, builtin_max2, bin_add, bin_sub, bin_mul, bin_quo, bin_rem, bin_lss, bin_leq, bin_gtr, bin_geq, bin_eql, bin_neq, un_neg, un_not, opd, opds, optAll, lk, putO, put, has, rep, nbeq, nblt, constOk, isC, ops, sub, cl, cr, co, bodyOf, thenS_normal, thenS_ret, thenS_exit, thenS_goto, afterN_normal, afterN_ret, afterN_exit, afterN_goto, condS_true, condS_false, blockS_normal, blockS_ret, blockS_exit, blockS_goto, loopS_exit, loopS_ret, plainS_some, drawS_some, fpsOk, disj, unord, mem, range', dropTo, enumT, undef, wrap_i64_id, Value.cells, mkCells, ptrTo, scal, cellsAt, rdN, endS_ret, resultsA, Option.bind_some, tupV, finish, reach, reachN, dep, ptrL_eq, ptrL, renL_eq, renL, ptrV_bool, ptrV_int, ptrV_string, ptrV_nilFunc, ptrV_nilIface, ptrV_nilPtr, ptrV_ptr, ptrV_nilSl, ptrV_sl, ptrV_iface, ptrV_agg, ptrV_tuple, ptrV_func, renV_bool, renV_int, renV_string, renV_nilFunc, renV_nilIface, renV_nilPtr, renV_ptr, renV_nilSl, renV_sl, renV_iface, renV_agg, renV_tuple, renV_func, o_fieldAddr fa_35_0 (by decide), loadA_eq ia_3, o_fieldAddr fa_35_1 (by decide), o_fieldAddr fa_35_2 (by decide), za_103, o_build za_103 pl_103, o_fieldAddr fa_35_3 (by decide), o_indexAddrS es_104, ze_104, o_buildSlice es_104 ze_104 (by decide) ba_104_4, lenA_sl lk_104, loadA_eq ia_103, sz_103, o_fieldAddr fa_103_2 (by decide), loadA_eq ia_24, o_fieldAddr fa_103_0 (by decide), o_fieldAddr fa_103_1 (by decide), n56_1s, n56_4s, n56_8s, n56_11s, n56_12s, n56_10s, n56_16s, n56_18s, n56_22s, n56_25s, n56_26s, n56_24s, n56_31s, n56_33s, n56_34s, n56_32s, n56_30s, n56_35s, n56_29s, n56_28s, n56_36s, n56_27s, n56_23s, n56_21s, n56_19s, n56_17s, n56_15s, n56_14s, n56_37s, n56_13s, n56_9s, n56_7s, n56_5s, n56_3s, n56_38s, n56_2s, n56_0s, Try.f56, hl]
  exact (loop56 w hh o off n c X Y W H cs own 1 (px W) (py W) (runF p v W) (.cells [iv (1), iv (0), iv W] 1 true true) (runW p v wr W) hwr _ _ _ rfl rfl).trans hk'
theorem l56_1 (px py v : Nat → Int) (p : Int × Int) (wr : List Nat) (hw : 0 ≤ w ∧ w ≤ 9) (hn : H ≤ 9) (hx : ∀ r, px (r + 1) = px r + (0)) (hy : ∀ r, py (r + 1) = py r + (1)) (hp : okP 500000 p)
    (hv : ∀ r, r < H → small (px r) ∧ small (py r) ∧ isN (v r) ∧ ∃ j : Nat, py r * w + px r = j ∧ j < n ∧ cs[off + j]? = some (iv (v r))) (hwr : runW p v wr H = [0, 1] ∨ runW p v wr H = [0, 1, 2]) {r : Ex × St}
    (hk : codeB Try.prog LL ⟨56, 57, 6, none⟩ n56_6 ⟨S56 X Y W H 2 (px H) (py H), H56 w hh o off n c X Y W H cs own (runF p v H) [], runW p v wr H⟩ = some r) :
    codeB Try.prog LL ⟨56, 57, 6, none⟩ n56_6 ⟨S56 X Y W H 1 (px 0) (py 0), H56 w hh o off n c X Y W H cs own p [], wr⟩ = some r := by
  have hpr : ∀ r, r ≤ H → ((runF p v r).1 = -1 ∨ isN (runF p v r).1) ∧ -1000000 ≤ (runF p v r).2 ∧ (runF p v r).2 ≤ 1000000 := by
    intro r hr
    have := (runF_ok hp (by omega) r fun i hi => (hv i (by omega)).2.2.1).mono (C := 1000000) (by omega)
    exact this
  have hl := l56i w hh o off n c X Y W H cs own 1 (0) (1) 3 H px py v (runF p v) (runW p v wr) hw (by omega) hx hy (fun _ => rfl) (fun _ => rfl) hv hpr (by omega) (by omega) H 0 (by omega)
  have hk' := L_code hk
  rw [n56_6s]
  simp only [I56, S56, H56, sides, Int.natCast_zero, runF, runW] at hl ⊢
  simp (disch := first | omega | decide | assumption | simp [scal]) [runOps_nil, runOps_cons, runOpsF_nil, runOpsF_cons, fstS_some, fstF_some, opStep_eq, want_none, oStep_true, oStep_false, fin_pure, fin_read, fin_alloc, fin_write, storeB, wrN, cellV, addWr, o_move, o_assign, o_pick, o_alloc, o_box, o_load, o_store, o_nilCheck, o_bin, o_un, o_extract, o_callV, o_callB, o_callI, callV_f, callV_y, callV_fc, o_makeFunc, partsA, Instr.fill, builtin_len, builtin_max2, bin_add, bin_sub, bin_mul, bin_quo, bin_rem, bin_lss, bin_leq, bin_gtr, bin_geq, bin_eql, bin_neq, un_neg, un_not, opd, opds, optAll, lk, putO, put, has, rep, nbeq, nblt, constOk, isC, ops, sub, cl, cr, co, bodyOf, thenS_normal, thenS_ret, thenS_exit, thenS_goto, afterN_normal, afterN_ret, afterN_exit, afterN_goto, condS_true, condS_false, blockS_normal, blockS_ret, blockS_exit, blockS_goto, loopS_exit, loopS_ret, plainS_some, drawS_some, fpsOk, disj, unord, mem, range', dropTo, enumT, undef, wrap_i64_id, Value.cells, mkCells, ptrTo, scal, cellsAt, rdN, endS_ret, resultsA, Option.bind_some, tupV, finish, reach, reachN, dep, ptrL_eq, ptrL, renL_eq, renL, ptrV_bool, ptrV_int, ptrV_string, ptrV_nilFunc, ptrV_nilIface, ptrV_nilPtr, ptrV_ptr, ptrV_nilSl, ptrV_sl, ptrV_iface, ptrV_agg, ptrV_tuple, ptrV_func, renV_bool, renV_int, renV_string, renV_nilFunc, renV_nilIface, renV_nilPtr, renV_ptr, renV_nilSl, renV_sl, renV_iface, renV_agg, renV_tuple, renV_func, o_fieldAddr fa_35_0 (by decide), loadA_eq ia_3, o_fieldAddr fa_35_1 (by decide), o_fieldAddr fa_35_2 (by decide), za_103, o_build za_103 pl_103, o_fieldAddr fa_35_3 (by decide), o_indexAddrS es_104, ze_104, o_buildSlice es_104 ze_104 (by decide) ba_104_4, lenA_sl lk_104, loadA_eq ia_103, sz_103, o_fieldAddr fa_103_2 (by decide), loadA_eq ia_24, o_fieldAddr fa_103_0 (by decide), o_fieldAddr fa_103_1 (by decide), n56_1s, n56_4s, n56_8s, n56_11s, n56_12s, n56_10s, n56_16s, n56_18s, n56_22s, n56_25s, n56_26s, n56_24s, n56_31s, n56_33s, n56_34s, n56_32s, n56_30s, n56_35s, n56_29s, n56_28s, n56_36s, n56_27s, n56_23s, n56_21s, n56_19s, n56_17s, n56_15s, n56_14s, n56_37s, n56_13s, n56_9s, n56_7s, n56_5s, n56_3s, n56_38s, n56_2s, n56_0s, Try.f56, hl]
  exact (loop56 w hh o off n c X Y W H cs own 2 (px H) (py H) (runF p v H) (.cells [iv (0), iv (1), iv H] 1 true true) (runW p v wr H) hwr _ _ _ rfl rfl).trans hk'
theorem l56_2 (px py v : Nat → Int) (p : Int × Int) (wr : List Nat) (hw : 0 ≤ w ∧ w ≤ 9) (hn : W ≤ 9) (hx : ∀ r, px (r + 1) = px r + (-1)) (hy : ∀ r, py (r + 1) = py r + (0)) (hp : okP 500000 p)
    (hv : ∀ r, r < W → small (px r) ∧ small (py r) ∧ isN (v r) ∧ ∃ j : Nat, py r * w + px r = j ∧ j < n ∧ cs[off + j]? = some (iv (v r))) (hwr : runW p v wr W = [0, 1] ∨ runW p v wr W = [0, 1, 2]) {r : Ex × St}
    (hk : codeB Try.prog LL ⟨56, 57, 6, none⟩ n56_6 ⟨S56 X Y W H 3 (px W) (py W), H56 w hh o off n c X Y W H cs own (runF p v W) [], runW p v wr W⟩ = some r) :
    codeB Try.prog LL ⟨56, 57, 6, none⟩ n56_6 ⟨S56 X Y W H 2 (px 0) (py 0), H56 w hh o off n c X Y W H cs own p [], wr⟩ = some r := by
  have hpr : ∀ r, r ≤ W → ((runF p v r).1 = -1 ∨ isN (runF p v r).1) ∧ -1000000 ≤ (runF p v r).2 ∧ (runF p v r).2 ≤ 1000000 := by
    intro r hr
    have := (runF_ok hp (by omega) r fun i hi => (hv i (by omega)).2.2.1).mono (C := 1000000) (by omega)
    exact this
  have hl := l56i w hh o off n c X Y W H cs own 2 (-1) (0) 6 W px py v (runF p v) (runW p v wr) hw (by omega) hx hy (fun _ => rfl) (fun _ => rfl) hv hpr (by omega) (by omega) W 0 (by omega)
  have hk' := L_code hk
  rw [n56_6s]
  simp only [I56, S56, H56, sides, Int.natCast_zero, runF, runW] at hl ⊢
  simp (disch := first | omega | decide | assumption | simp [scal]) [runOps_nil, runOps_cons, runOpsF_nil, runOpsF_cons, fstS_some, fstF_some, opStep_eq, want_none, oStep_true, oStep_false, fin_pure, fin_read, fin_alloc, fin_write, storeB, wrN, cellV, addWr, o_move, o_assign, o_pick, o_alloc, o_box, o_load, o_store, o_nilCheck, o_bin, o_un, o_extract, o_callV, o_callB, o_callI, callV_f, callV_y, callV_fc, o_makeFunc, partsA, Instr.fill, builtin_len, builtin_max2, bin_add, bin_sub, bin_mul, bin_quo, bin_rem, bin_lss, bin_leq, bin_gtr, bin_geq, bin_eql, bin_neq, un_neg, un_not, opd, opds, optAll, lk, putO, put, has, rep, nbeq, nblt, constOk, isC, ops, sub, cl, cr, co, bodyOf, thenS_normal, thenS_ret, thenS_exit, thenS_goto, afterN_normal, afterN_ret, afterN_exit, afterN_goto, condS_true, condS_false, blockS_normal, blockS_ret, blockS_exit, blockS_goto, loopS_exit, loopS_ret, plainS_some, drawS_some, fpsOk, disj, unord, mem, range', dropTo, enumT, undef, wrap_i64_id, Value.cells, mkCells, ptrTo, scal, cellsAt, rdN, endS_ret, resultsA, Option.bind_some, tupV, finish, reach, reachN, dep, ptrL_eq, ptrL, renL_eq, renL, ptrV_bool, ptrV_int, ptrV_string, ptrV_nilFunc, ptrV_nilIface, ptrV_nilPtr, ptrV_ptr, ptrV_nilSl, ptrV_sl, ptrV_iface, ptrV_agg, ptrV_tuple, ptrV_func, renV_bool, renV_int, renV_string, renV_nilFunc, renV_nilIface, renV_nilPtr, renV_ptr, renV_nilSl, renV_sl, renV_iface, renV_agg, renV_tuple, renV_func, o_fieldAddr fa_35_0 (by decide), loadA_eq ia_3, o_fieldAddr fa_35_1 (by decide), o_fieldAddr fa_35_2 (by decide), za_103, o_build za_103 pl_103, o_fieldAddr fa_35_3 (by decide), o_indexAddrS es_104, ze_104, o_buildSlice es_104 ze_104 (by decide) ba_104_4, lenA_sl lk_104, loadA_eq ia_103, sz_103, o_fieldAddr fa_103_2 (by decide), loadA_eq ia_24, o_fieldAddr fa_103_0 (by decide), o_fieldAddr fa_103_1 (by decide), n56_1s, n56_4s, n56_8s, n56_11s, n56_12s, n56_10s, n56_16s, n56_18s, n56_22s, n56_25s, n56_26s, n56_24s, n56_31s, n56_33s, n56_34s, n56_32s, n56_30s, n56_35s, n56_29s, n56_28s, n56_36s, n56_27s, n56_23s, n56_21s, n56_19s, n56_17s, n56_15s, n56_14s, n56_37s, n56_13s, n56_9s, n56_7s, n56_5s, n56_3s, n56_38s, n56_2s, n56_0s, Try.f56, hl]
  exact (loop56 w hh o off n c X Y W H cs own 3 (px W) (py W) (runF p v W) (.cells [iv (-1), iv (0), iv W] 1 true true) (runW p v wr W) hwr _ _ _ rfl rfl).trans hk'
theorem l56_3 (px py v : Nat → Int) (p : Int × Int) (wr : List Nat) (hw : 0 ≤ w ∧ w ≤ 9) (hn : H ≤ 9) (hx : ∀ r, px (r + 1) = px r + (0)) (hy : ∀ r, py (r + 1) = py r + (-1)) (hp : okP 500000 p)
    (hv : ∀ r, r < H → small (px r) ∧ small (py r) ∧ isN (v r) ∧ ∃ j : Nat, py r * w + px r = j ∧ j < n ∧ cs[off + j]? = some (iv (v r))) (hwr : runW p v wr H = [0, 1] ∨ runW p v wr H = [0, 1, 2]) {r : Ex × St}
    (hk : codeB Try.prog LL ⟨56, 57, 6, none⟩ n56_6 ⟨S56 X Y W H 4 (px H) (py H), H56 w hh o off n c X Y W H cs own (runF p v H) [], runW p v wr H⟩ = some r) :
    codeB Try.prog LL ⟨56, 57, 6, none⟩ n56_6 ⟨S56 X Y W H 3 (px 0) (py 0), H56 w hh o off n c X Y W H cs own p [], wr⟩ = some r := by
  have hpr : ∀ r, r ≤ H → ((runF p v r).1 = -1 ∨ isN (runF p v r).1) ∧ -1000000 ≤ (runF p v r).2 ∧ (runF p v r).2 ≤ 1000000 := by
    intro r hr
    have := (runF_ok hp (by omega) r fun i hi => (hv i (by omega)).2.2.1).mono (C := 1000000) (by omega)
    exact this
  have hl := l56i w hh o off n c X Y W H cs own 3 (0) (-1) 9 H px py v (runF p v) (runW p v wr) hw (by omega) hx hy (fun _ => rfl) (fun _ => rfl) hv hpr (by omega) (by omega) H 0 (by omega)
  have hk' := L_code hk
  rw [n56_6s]
  simp only [I56, S56, H56, sides, Int.natCast_zero, runF, runW] at hl ⊢
  simp (disch := first | omega | decide | assumption | simp [scal]) [runOps_nil, runOps_cons, runOpsF_nil, runOpsF_cons, fstS_some, fstF_some, opStep_eq, want_none, oStep_true, oStep_false, fin_pure, fin_read, fin_alloc, fin_write, storeB, wrN, cellV, addWr, o_move, o_assign, o_pick, o_alloc, o_box, o_load, o_store, o_nilCheck, o_bin, o_un, o_extract, o_callV, o_callB, o_callI, callV_f, callV_y, callV_fc, o_makeFunc, partsA, Instr.fill, builtin_len, builtin_max2, bin_add, bin_sub, bin_mul, bin_quo, bin_rem, bin_lss, bin_leq, bin_gtr, bin_geq, bin_eql, bin_neq, un_neg, un_not, opd, opds, optAll, lk, putO, put, has, rep, nbeq, nblt, constOk, isC, ops, sub, cl, cr, co, bodyOf, thenS_normal, thenS_ret, thenS_exit, thenS_goto, afterN_normal, afterN_ret, afterN_exit, afterN_goto, condS_true, condS_false, blockS_normal, blockS_ret, blockS_exit, blockS_goto, loopS_exit, loopS_ret, plainS_some, drawS_some, fpsOk, disj, unord, mem, range', dropTo, enumT, undef, wrap_i64_id, Value.cells, mkCells, ptrTo, scal, cellsAt, rdN, endS_ret, resultsA, Option.bind_some, tupV, finish, reach, reachN, dep, ptrL_eq, ptrL, renL_eq, renL, ptrV_bool, ptrV_int, ptrV_string, ptrV_nilFunc, ptrV_nilIface, ptrV_nilPtr, ptrV_ptr, ptrV_nilSl, ptrV_sl, ptrV_iface, ptrV_agg, ptrV_tuple, ptrV_func, renV_bool, renV_int, renV_string, renV_nilFunc, renV_nilIface, renV_nilPtr, renV_ptr, renV_nilSl, renV_sl, renV_iface, renV_agg, renV_tuple, renV_func, o_fieldAddr fa_35_0 (by decide), loadA_eq ia_3, o_fieldAddr fa_35_1 (by decide), o_fieldAddr fa_35_2 (by decide), za_103, o_build za_103 pl_103, o_fieldAddr fa_35_3 (by decide), o_indexAddrS es_104, ze_104, o_buildSlice es_104 ze_104 (by decide) ba_104_4, lenA_sl lk_104, loadA_eq ia_103, sz_103, o_fieldAddr fa_103_2 (by decide), loadA_eq ia_24, o_fieldAddr fa_103_0 (by decide), o_fieldAddr fa_103_1 (by decide), n56_1s, n56_4s, n56_8s, n56_11s, n56_12s, n56_10s, n56_16s, n56_18s, n56_22s, n56_25s, n56_26s, n56_24s, n56_31s, n56_33s, n56_34s, n56_32s, n56_30s, n56_35s, n56_29s, n56_28s, n56_36s, n56_27s, n56_23s, n56_21s, n56_19s, n56_17s, n56_15s, n56_14s, n56_37s, n56_13s, n56_9s, n56_7s, n56_5s, n56_3s, n56_38s, n56_2s, n56_0s, Try.f56, hl]
  exact (loop56 w hh o off n c X Y W H cs own 4 (px H) (py H) (runF p v H) (.cells [iv (0), iv (-1), iv H] 1 true true) (runW p v wr H) hwr _ _ _ rfl rfl).trans hk'
end
end Go.Proofs.Ytgpcjdhlijompaa.ore
namespace Go.Proofs.Ytgpcjdhlijompaa.ore
open Go.GE
set_option linter.unusedVariables false
set_option linter.unusedSimpArgs false
set_option maxRecDepth 100000
theorem endS_normal {rs : List ResultVar} {base : Nat} {st : St} : endS Try.prog rs base (some (.normal, st)) = (match resultsA Try.prog rs st with
    | some vs => finish base (tupV vs) st.h st.wr
    | none => none) := rfl
/-- the needle of a point -/
def gr (Wf : Nat) (nd : Nat → Int) (x y : Nat) : Int := nd (y * Wf + x)
def ringP (g : Nat → Nat → Int) (X Y W H : Nat) : Int × Int :=
  stp (runF (runF (runF (runF (-1, 0) (fun r => g (X + r) Y) W) (fun r => g (X + W) (Y + r)) H) (fun r => g (X + W - r) (Y + H)) W) (fun r => g X (Y + H - r)) H) (g X Y)
/-- a field that is checked, and a block of it -/
structure Fld (Wf HH : Nat) (o : Int) (off n : Nat) (cs : List Value) (nd : Nat → Int) : Prop where
  hw : 2 ≤ Wf ∧ Wf ≤ 9
  hh : 2 ≤ HH ∧ HH ≤ 9
  ho : 0 ≤ o ∧ o ≤ 400
  hn : n = HH * Wf
  hc : ∀ i, i < n → cs[off + i]? = some (iv (nd i))
  his : ∀ i, i < n → isN (nd i)
theorem Fld.at {Wf HH : Nat} {o : Int} {off n : Nat} {cs : List Value} {nd : Nat → Int} (F : Fld Wf HH o off n cs nd) {x y : Nat} (hx : x < Wf) (hy : y < HH) :
    isN (gr Wf nd x y) ∧ ∃ j : Nat, (y : Int) * Wf + x = j ∧ j < n ∧ cs[off + j]? = some (iv (gr Wf nd x y)) := by
  have hj : y * Wf + x < n := by
    have := Nat.mul_le_mul_right Wf (show y + 1 ≤ HH by omega)
    rw [Nat.add_mul, Nat.one_mul] at this
    rw [F.hn]; omega
  exact ⟨F.his _ hj, y * Wf + x, by simp, hj, F.hc _ hj⟩
section
variable {Wf HH : Nat} {o : Int} {off n : Nat} (c : Nat) {cs : List Value} (own : Bool) {nd : Nat → Int} {X Y W H : Nat}
theorem Fld.pt (F : Fld Wf HH o off n cs nd) (x y : Int) (hx : 0 ≤ x ∧ x < Wf) (hy : 0 ≤ y ∧ y < HH) {v : Int} (hv : v = gr Wf nd x.toNat y.toNat) : small x ∧ small y ∧ isN v ∧ ∃ j : Nat, y * Wf + x = j ∧ j < n ∧ cs[off + j]? = some (iv v) := by
  have hw := F.hw; have hh := F.hh
  have := F.at (x := x.toNat) (y := y.toNat) (by omega) (by omega)
  rw [← hv] at this
  have e1 : ((x.toNat : Nat) : Int) = x := by omega
  have e2 : ((y.toNat : Nat) : Int) = y := by omega
  rw [e1, e2] at this
  exact ⟨by unfold small; omega, by unfold small; omega, this⟩
theorem loop_all (F : Fld Wf HH o off n cs nd) (hW : 1 ≤ W) (hH : 1 ≤ H) (hX : X + W + 1 ≤ Wf) (hY : Y + H + 1 ≤ HH) :
    ∃ p : Int × Int, stp p (gr Wf nd X Y) = ringP (gr Wf nd) X Y W H ∧ okP 60000 p ∧ codeB Try.prog LL ⟨56, 57, 6, none⟩ n56_6 ⟨S56 X Y W H 0 X Y, H56 Wf HH o off n c X Y W H cs own (-1, 0) [], []⟩ =
      some (.exit 0, ⟨(27, .bool false) :: S56 X Y W H 4 X Y, H56 Wf HH o off n c X Y W H cs own p [], [0, 1, 2]⟩) := by
  have hw := F.hw; have hh := F.hh
  have q1 : ∀ r, r < W → isN (gr Wf nd (X + r) Y) := fun r hr => (F.at (by omega) (by omega)).1
  have q2 : ∀ r, r < H → isN (gr Wf nd (X + W) (Y + r)) := fun r hr => (F.at (by omega) (by omega)).1
  have q3 : ∀ r, r < W → isN (gr Wf nd (X + W - r) (Y + H)) := fun r hr => (F.at (by omega) (by omega)).1
  have q4 : ∀ r, r < H → isN (gr Wf nd X (Y + H - r)) := fun r hr => (F.at (by omega) (by omega)).1
  have o0 : okP 0 ((-1 : Int), (0 : Int)) := ⟨.inl rfl, by decide, by decide⟩
  have o1 := (runF_ok o0 (by omega) W q1).mono (C := 15000) (by omega)
  have o2 := (runF_ok o1 (by omega) H q2).mono (C := 30000) (by omega)
  have o3 := (runF_ok o2 (by omega) W q3).mono (C := 45000) (by omega)
  have o4 := (runF_ok o3 (by omega) H q4).mono (C := 60000) (by omega)
  refine ⟨_, rfl, o4, ?_⟩
  obtain ⟨W', rfl⟩ : ∃ k, W = k + 1 := ⟨W - 1, by omega⟩
  obtain ⟨H', rfl⟩ : ∃ k, H = k + 1 := ⟨H - 1, by omega⟩
  have w1 := runW_first (v := fun r => gr Wf nd (X + r) Y) W' q1
  have n1 : isN (runF (-1, 0) (fun r => gr Wf nd (X + r) Y) (W' + 1)).1 := by
    show isN (gr Wf nd (X + W') Y)
    exact q1 _ (by omega)
  have w2 := runW_from1 (v := fun r => gr Wf nd (X + (W' + 1)) (Y + r)) n1 w1 H' q2
  have hwI : (0 : Int) ≤ Wf ∧ (Wf : Int) ≤ 9 := by omega
  have t1 := fun {r : Ex × St} => l56_0 (r := r) Wf HH o off n c X Y (W' + 1) (H' + 1) cs own (fun r => (X : Int) + r) (fun _ => Y) (fun r => gr Wf nd (X + r) Y) (-1, 0) [] hwI (by omega) (fun r => by simp only [cast1]; omega) (fun r => by omega) (o0.mono (by omega))
    (fun r hr => F.pt _ _ (by omega) (by omega) (by congr 1)) w1
  have t2 := fun {r : Ex × St} => l56_1 (r := r) Wf HH o off n c X Y (W' + 1) (H' + 1) cs own (fun _ => (X : Int) + ((W' + 1 : Nat) : Int)) (fun r => Y + r) (fun r => gr Wf nd (X + (W' + 1)) (Y + r)) _ _ hwI (by omega) (fun r => by omega) (fun r => by simp only [cast1]; omega) (o1.mono (by omega))
    (fun r hr => F.pt _ _ (by omega) (by omega) (by congr 1)) (.inr w2)
  have t3 := fun {r : Ex × St} => l56_2 (r := r) Wf HH o off n c X Y (W' + 1) (H' + 1) cs own (fun r => (X : Int) + ((W' + 1 : Nat) : Int) - r) (fun _ => Y + ((H' + 1 : Nat) : Int)) (fun r => gr Wf nd (X + (W' + 1) - r) (Y + (H' + 1))) _ [0, 1, 2] hwI (by omega) (fun r => by simp only [cast1]; omega) (fun r => by omega) (o2.mono (by omega))
    (fun r hr => F.pt _ _ (by omega) (by omega) (by congr 1 <;> omega)) (.inr (runW_full _))
  have t4 := fun {r : Ex × St} => l56_3 (r := r) Wf HH o off n c X Y (W' + 1) (H' + 1) cs own (fun _ => (X : Int)) (fun r => (Y : Int) + ((H' + 1 : Nat) : Int) - r) (fun r => gr Wf nd X (Y + (H' + 1) - r)) _ [0, 1, 2] hwI (by omega) (fun r => by omega) (fun r => by simp only [cast1]; omega) (o3.mono (by omega))
    (fun r hr => F.pt _ _ (by omega) (by omega) (by congr 1 <;> omega)) (.inr (runW_full _))
  have e0 : (X : Int) + ((0 : Nat) : Int) = X := by omega
  have e1 : (Y : Int) + ((0 : Nat) : Int) = Y := by omega
  have e2 : (X : Int) + ((W' + 1 : Nat) : Int) - ((0 : Nat) : Int) = X + ((W' + 1 : Nat) : Int) := by omega
  have e3 : (Y : Int) + ((H' + 1 : Nat) : Int) - ((0 : Nat) : Int) = Y + ((H' + 1 : Nat) : Int) := by omega
  have e4 : (X : Int) + ((W' + 1 : Nat) : Int) - ((W' + 1 : Nat) : Int) = X := by omega
  have e5 : (Y : Int) + ((H' + 1 : Nat) : Int) - ((H' + 1 : Nat) : Int) = Y := by omega
  simp only [e0, e1, e2, e3, e4, e5, runW_full, w2] at t1 t2 t3 t4
  refine t1 (t2 (t3 (t4 ?_)))
  rw [n56_6s]
  simp only [S56, H56, sides]
  simp (disch := first | omega | decide | assumption | simp [scal]) [runOps_nil, runOps_cons, runOpsF_nil, runOpsF_cons, fstS_some, fstF_some, opStep_eq, want_none, oStep_true, oStep_false, fin_pure, fin_read, fin_alloc, fin_write, storeB, wrN, cellV, addWr, o_move, o_assign, o_pick, o_alloc, o_box, o_load, o_store, o_nilCheck, o_bin, o_un, o_extract, o_callV, o_callB, o_callI, callV_f, callV_y, callV_fc, o_makeFunc, partsA, Instr.fill, builtin_len, builtin_max2, bin_add, bin_sub, bin_mul, bin_quo, bin_rem, bin_lss, bin_leq, bin_gtr, bin_geq, bin_eql, bin_neq, un_neg, un_not, opd, opds, optAll, lk, putO, put, has, rep, nbeq, nblt, constOk, isC, ops, sub, cl, cr, co, bodyOf, thenS_normal, thenS_ret, thenS_exit, thenS_goto, afterN_normal, afterN_ret, afterN_exit, afterN_goto, condS_true, condS_false, blockS_normal, blockS_ret, blockS_exit, blockS_goto, loopS_exit, loopS_ret, plainS_some, drawS_some, fpsOk, disj, unord, mem, range', dropTo, enumT, undef, wrap_i64_id, Value.cells, mkCells, ptrTo, scal, cellsAt, rdN, endS_ret, resultsA, Option.bind_some, tupV, finish, reach, reachN, dep, ptrL_eq, ptrL, renL_eq, renL, ptrV_bool, ptrV_int, ptrV_string, ptrV_nilFunc, ptrV_nilIface, ptrV_nilPtr, ptrV_ptr, ptrV_nilSl, ptrV_sl, ptrV_iface, ptrV_agg, ptrV_tuple, ptrV_func, renV_bool, renV_int, renV_string, renV_nilFunc, renV_nilIface, renV_nilPtr, renV_ptr, renV_nilSl, renV_sl, renV_iface, renV_agg, renV_tuple, renV_func, o_fieldAddr fa_35_0 (by decide), loadA_eq ia_3, o_fieldAddr fa_35_1 (by decide), o_fieldAddr fa_35_2 (by decide), za_103, o_build za_103 pl_103, o_fieldAddr fa_35_3 (by decide), o_indexAddrS es_104, ze_104, o_buildSlice es_104 ze_104 (by decide) ba_104_4, lenA_sl lk_104, loadA_eq ia_103, sz_103, o_fieldAddr fa_103_2 (by decide), loadA_eq ia_24, o_fieldAddr fa_103_0 (by decide), o_fieldAddr fa_103_1 (by decide), n56_1s, n56_4s, n56_8s, n56_11s, n56_12s, n56_10s, n56_16s, n56_18s, n56_22s, n56_25s, n56_26s, n56_24s, n56_31s, n56_33s, n56_34s, n56_32s, n56_30s, n56_35s, n56_29s, n56_28s, n56_36s, n56_27s, n56_23s, n56_21s, n56_19s, n56_17s, n56_15s, n56_14s, n56_37s, n56_13s, n56_9s, n56_7s, n56_5s, n56_3s, n56_38s, n56_2s, n56_0s, Try.f56]
theorem c56 (F : Fld Wf HH o off n cs nd) (hW : 1 ≤ W) (hH : 1 ≤ H) (hX : X + W + 1 ≤ Wf) (hY : Y + H + 1 ≤ HH) :
    LL.run 56 [.func (.yield 0) #[] #[], .pointer (some ⟨3, 0, none⟩), .pointer (some ⟨4, 0, none⟩)] [.loop (lp44 1 2), c1 (-1), c1 0, bb X Y W H, fb Wf HH o 5 off n c, .cells cs 1 true own] =
      some ⟨.tuple #[], [], [(0, .loop (lp44 1 2)), (1, c1 (gr Wf nd X Y)), (2, c1 (ringP (gr Wf nd) X Y W H).2)]⟩ := by
  have hw := F.hw; have hh := F.hh
  refine go (by decide) ?_
  rw [run56 _ _ _ (by simp)]
  obtain ⟨p, hp, po, hl⟩ := loop_all c own F hW hH hX hY
  obtain ⟨x1, x2, x3, j, x4, x5, x6⟩ := F.pt (X : Int) (Y : Int) (v := gr Wf nd X Y) (by omega) (by omega) rfl
  have a1 := fun rest : List Blk => k41 Wf HH o 5 off n c X Y j (h := .loop (lp44 1 2) :: c1 p.1 :: c1 p.2 :: bb X Y W H :: fb Wf HH o 5 off n c :: .cells cs 1 true own :: rest) rfl x1 x2 (by omega) (by omega) x4 x5 x6
  have a2 := fun rest : List Blk => y56 p.1 p.2 (gr Wf nd X Y) rest po.1 x3 (by have := po.2; omega)
  have hp' : (stp (p.1, p.2) (gr Wf nd X Y)).2 = (ringP (gr Wf nd) X Y W H).2 := by rw [← hp]
  have hy : addWr 6 [0, 1, 2] (yw p.1) = [0, 1, 2] := addWr_full
  rw [hp'] at a2
  simp only [S56, H56, sides] at hl
  simp (disch := first | omega | decide | assumption | simp [scal]) [runOps_nil, runOps_cons, runOpsF_nil, runOpsF_cons, fstS_some, fstF_some, opStep_eq, want_none, oStep_true, oStep_false, fin_pure, fin_read, fin_alloc, fin_write, storeB, wrN, cellV, addWr, o_move, o_assign, o_pick, o_alloc, o_box, o_load, o_store, o_nilCheck, o_bin, o_un, o_extract, o_callV, o_callB, o_callI, callV_f, callV_y, callV_fc, o_makeFunc, partsA, Instr.fill, builtin_len, builtin_max2, bin_add, bin_sub, bin_mul, bin_quo, bin_rem, bin_lss, bin_leq, bin_gtr, bin_geq, bin_eql, bin_neq, un_neg, un_not, opd, opds, optAll, lk, putO, put, has, rep, nbeq, nblt, constOk, isC, ops, sub, cl, cr, co, bodyOf, thenS_normal, thenS_ret, thenS_exit, thenS_goto, afterN_normal, afterN_ret, afterN_exit, afterN_goto, condS_true, condS_false, blockS_normal, blockS_ret, blockS_exit, blockS_goto, loopS_exit, loopS_ret, plainS_some, drawS_some, fpsOk, disj, unord, mem, range', dropTo, enumT, undef, wrap_i64_id, Value.cells, mkCells, ptrTo, scal, cellsAt, rdN, endS_ret, resultsA, Option.bind_some, tupV, finish, reach, reachN, dep, ptrL_eq, ptrL, renL_eq, renL, ptrV_bool, ptrV_int, ptrV_string, ptrV_nilFunc, ptrV_nilIface, ptrV_nilPtr, ptrV_ptr, ptrV_nilSl, ptrV_sl, ptrV_iface, ptrV_agg, ptrV_tuple, ptrV_func, renV_bool, renV_int, renV_string, renV_nilFunc, renV_nilIface, renV_nilPtr, renV_ptr, renV_nilSl, renV_sl, renV_iface, renV_agg, renV_tuple, renV_func, o_fieldAddr fa_35_0 (by decide), loadA_eq ia_3, o_fieldAddr fa_35_1 (by decide), o_fieldAddr fa_35_2 (by decide), za_103, o_build za_103 pl_103, o_fieldAddr fa_35_3 (by decide), o_indexAddrS es_104, ze_104, o_buildSlice es_104 ze_104 (by decide) ba_104_4, lenA_sl lk_104, loadA_eq ia_103, sz_103, o_fieldAddr fa_103_2 (by decide), loadA_eq ia_24, o_fieldAddr fa_103_0 (by decide), o_fieldAddr fa_103_1 (by decide), n56_1s, n56_4s, n56_8s, n56_11s, n56_12s, n56_10s, n56_16s, n56_18s, n56_22s, n56_25s, n56_26s, n56_24s, n56_31s, n56_33s, n56_34s, n56_32s, n56_30s, n56_35s, n56_29s, n56_28s, n56_36s, n56_27s, n56_23s, n56_21s, n56_19s, n56_17s, n56_15s, n56_14s, n56_37s, n56_13s, n56_9s, n56_7s, n56_5s, n56_3s, n56_38s, n56_2s, n56_0s, Try.f56, hl, a1, a2, hy]
  simp (disch := first | omega | decide | assumption | simp [scal]) [runOps_nil, runOps_cons, runOpsF_nil, runOpsF_cons, fstS_some, fstF_some, opStep_eq, want_none, oStep_true, oStep_false, fin_pure, fin_read, fin_alloc, fin_write, storeB, wrN, cellV, addWr, o_move, o_assign, o_pick, o_alloc, o_box, o_load, o_store, o_nilCheck, o_bin, o_un, o_extract, o_callV, o_callB, o_callI, callV_f, callV_y, callV_fc, o_makeFunc, partsA, Instr.fill, builtin_len, builtin_max2, bin_add, bin_sub, bin_mul, bin_quo, bin_rem, bin_lss, bin_leq, bin_gtr, bin_geq, bin_eql, bin_neq, un_neg, un_not, opd, opds, optAll, lk, putO, put, has, rep, nbeq, nblt, constOk, isC, ops, sub, cl, cr, co, bodyOf, thenS_normal, thenS_ret, thenS_exit, thenS_goto, afterN_normal, afterN_ret, afterN_exit, afterN_goto, condS_true, condS_false, blockS_normal, blockS_ret, blockS_exit, blockS_goto, loopS_exit, loopS_ret, plainS_some, drawS_some, fpsOk, disj, unord, mem, range', dropTo, enumT, undef, wrap_i64_id, Value.cells, mkCells, ptrTo, scal, cellsAt, rdN, endS_ret, resultsA, Option.bind_some, tupV, finish, reach, reachN, dep, ptrL_eq, ptrL, renL_eq, renL, ptrV_bool, ptrV_int, ptrV_string, ptrV_nilFunc, ptrV_nilIface, ptrV_nilPtr, ptrV_ptr, ptrV_nilSl, ptrV_sl, ptrV_iface, ptrV_agg, ptrV_tuple, ptrV_func, renV_bool, renV_int, renV_string, renV_nilFunc, renV_nilIface, renV_nilPtr, renV_ptr, renV_nilSl, renV_sl, renV_iface, renV_agg, renV_tuple, renV_func, loadA_eq ia_59, za_24, sz_24, loadA_eq ia_24, loadA_eq ia_60, za_35, sz_35, loadA_eq ia_35, o_fieldAddr fa_35_2 (by decide), loadA_eq ia_3, o_fieldAddr fa_35_3 (by decide), o_fieldAddr fa_35_0 (by decide), o_fieldAddr fa_35_1 (by decide), o_fieldAddr fa_24_0 (by decide), o_fieldAddr fa_24_1 (by decide), o_fieldAddr fa_24_2 (by decide), o_fieldAddr fa_24_3 (by decide), loadA_eq ia_22, lenA_sl lk_22, o_indexAddrS es_22, o_fieldAddr fa_89_0 (by decide), o_indexAddrA ea_83, o_indexAddrA ea_82, o_build za_35 pl_35, o_fieldAddr fa_89_1 (by decide), o_indexAddrA ea_87, o_indexAddrA ea_86, loadA_eq ia_85, o_fieldAddr fa_59_0 (by decide), loadA_eq ia_5, o_convI cv_5_3, o_fieldAddr fa_59_1 (by decide), o_fieldAddr fa_59_2 (by decide), o_build za_24 pl_24, o_fieldAddr fa_59_3 (by decide), loadA_eq ia_57, lenA_sl lk_57, o_indexAddrS es_57, ze_22, o_buildSlice es_22 ze_22 (by decide) ba_22_1, ap_22, builtin_append ni_22, sz_22, o_indexAddrA ea_60, za_3, sz_3, za_89, o_build za_89 pl_89, za_90, sz_90, za_79, sz_79, loadA_eq ia_79, loadA_eq ia_90, lenA_sl lk_101, o_indexAddrS es_101, sz_85, o_mkI ii_93, ze_101, o_buildSlice es_101 ze_101 (by decide) ba_101_1, ap_101, builtin_append ni_101, o_mkI ii_94, za_103, o_build za_103 pl_103, o_indexAddrS es_104, ze_104, o_buildSlice es_104 ze_104 (by decide) ba_104_4, lenA_sl lk_104, loadA_eq ia_103, sz_103, o_fieldAddr fa_103_2 (by decide), o_fieldAddr fa_103_0 (by decide), o_fieldAddr fa_103_1 (by decide), endS_normal, optAll, renB, c1, lp44, ptrB, ptrT, renT]
end
end Go.Proofs.Ytgpcjdhlijompaa.ore
namespace Go.Proofs.Ytgpcjdhlijompaa.ore
open Go.GE
set_option linter.unusedVariables false
set_option linter.unusedSimpArgs false
set_option maxRecDepth 100000
theorem c53 (w hh o : Int) (off n c : Nat) (X Y W H : Int) (cs : List Value) (own : Bool) :
    LL.run 53 [fv w hh o 0 off n c, bv X Y W H] [.cells cs 1 true own] = some ⟨.func (.func 56) #[] #[.pointer (some ⟨1, 0, none⟩), .pointer (some ⟨2, 0, none⟩)], [bb X Y W H, fb w hh o 0 off n c], []⟩ := by
  refine go (by decide) ?_
  rw [run53 _ _ _ (by simp)]
  simp (disch := first | omega | decide | assumption | simp [scal]) [runOps_nil, runOps_cons, runOpsF_nil, runOpsF_cons, fstS_some, fstF_some, opStep_eq, want_none, oStep_true, oStep_false, fin_pure, fin_read, fin_alloc, fin_write, storeB, wrN, cellV, addWr, o_move, o_assign, o_pick, o_alloc, o_box, o_load, o_store, o_nilCheck, o_bin, o_un, o_extract, o_callV, o_callB, o_callI, callV_f, callV_y, callV_fc, o_makeFunc, partsA, Instr.fill, builtin_len, builtin_max2, bin_add, bin_sub, bin_mul, bin_quo, bin_rem, bin_lss, bin_leq, bin_gtr, bin_geq, bin_eql, bin_neq, un_neg, un_not, opd, opds, optAll, lk, putO, put, has, rep, nbeq, nblt, constOk, isC, ops, sub, cl, cr, co, bodyOf, thenS_normal, thenS_ret, thenS_exit, thenS_goto, afterN_normal, afterN_ret, afterN_exit, afterN_goto, condS_true, condS_false, blockS_normal, blockS_ret, blockS_exit, blockS_goto, loopS_exit, loopS_ret, plainS_some, drawS_some, fpsOk, disj, unord, mem, range', dropTo, enumT, undef, wrap_i64_id, Value.cells, mkCells, ptrTo, scal, cellsAt, rdN, endS_ret, resultsA, Option.bind_some, tupV, finish, reach, reachN, dep, ptrL_eq, ptrL, renL_eq, renL, ptrV_bool, ptrV_int, ptrV_string, ptrV_nilFunc, ptrV_nilIface, ptrV_nilPtr, ptrV_ptr, ptrV_nilSl, ptrV_sl, ptrV_iface, ptrV_agg, ptrV_tuple, ptrV_func, renV_bool, renV_int, renV_string, renV_nilFunc, renV_nilIface, renV_nilPtr, renV_ptr, renV_nilSl, renV_sl, renV_iface, renV_agg, renV_tuple, renV_func, n53_1s, n53_3s, n53_4s, n53_2s, n53_0s, Try.f53]
  simp (disch := first | omega | decide | assumption | simp [scal]) [runOps_nil, runOps_cons, runOpsF_nil, runOpsF_cons, fstS_some, fstF_some, opStep_eq, want_none, oStep_true, oStep_false, fin_pure, fin_read, fin_alloc, fin_write, storeB, wrN, cellV, addWr, o_move, o_assign, o_pick, o_alloc, o_box, o_load, o_store, o_nilCheck, o_bin, o_un, o_extract, o_callV, o_callB, o_callI, callV_f, callV_y, callV_fc, o_makeFunc, partsA, Instr.fill, builtin_len, builtin_max2, bin_add, bin_sub, bin_mul, bin_quo, bin_rem, bin_lss, bin_leq, bin_gtr, bin_geq, bin_eql, bin_neq, un_neg, un_not, opd, opds, optAll, lk, putO, put, has, rep, nbeq, nblt, constOk, isC, ops, sub, cl, cr, co, bodyOf, thenS_normal, thenS_ret, thenS_exit, thenS_goto, afterN_normal, afterN_ret, afterN_exit, afterN_goto, condS_true, condS_false, blockS_normal, blockS_ret, blockS_exit, blockS_goto, loopS_exit, loopS_ret, plainS_some, drawS_some, fpsOk, disj, unord, mem, range', dropTo, enumT, undef, wrap_i64_id, Value.cells, mkCells, ptrTo, scal, cellsAt, rdN, endS_ret, resultsA, Option.bind_some, tupV, finish, reach, reachN, dep, ptrL_eq, ptrL, renL_eq, renL, ptrV_bool, ptrV_int, ptrV_string, ptrV_nilFunc, ptrV_nilIface, ptrV_nilPtr, ptrV_ptr, ptrV_nilSl, ptrV_sl, ptrV_iface, ptrV_agg, ptrV_tuple, ptrV_func, renV_bool, renV_int, renV_string, renV_nilFunc, renV_nilIface, renV_nilPtr, renV_ptr, renV_nilSl, renV_sl, renV_iface, renV_agg, renV_tuple, renV_func, loadA_eq ia_59, za_24, sz_24, loadA_eq ia_24, loadA_eq ia_60, za_35, sz_35, loadA_eq ia_35, o_fieldAddr fa_35_2 (by decide), loadA_eq ia_3, o_fieldAddr fa_35_3 (by decide), o_fieldAddr fa_35_0 (by decide), o_fieldAddr fa_35_1 (by decide), o_fieldAddr fa_24_0 (by decide), o_fieldAddr fa_24_1 (by decide), o_fieldAddr fa_24_2 (by decide), o_fieldAddr fa_24_3 (by decide), loadA_eq ia_22, lenA_sl lk_22, o_indexAddrS es_22, o_fieldAddr fa_89_0 (by decide), o_indexAddrA ea_83, o_indexAddrA ea_82, o_build za_35 pl_35, o_fieldAddr fa_89_1 (by decide), o_indexAddrA ea_87, o_indexAddrA ea_86, loadA_eq ia_85, o_fieldAddr fa_59_0 (by decide), loadA_eq ia_5, o_convI cv_5_3, o_fieldAddr fa_59_1 (by decide), o_fieldAddr fa_59_2 (by decide), o_build za_24 pl_24, o_fieldAddr fa_59_3 (by decide), loadA_eq ia_57, lenA_sl lk_57, o_indexAddrS es_57, ze_22, o_buildSlice es_22 ze_22 (by decide) ba_22_1, ap_22, builtin_append ni_22, sz_22, o_indexAddrA ea_60, za_3, sz_3, za_89, o_build za_89 pl_89, za_90, sz_90, za_79, sz_79, loadA_eq ia_79, loadA_eq ia_90, lenA_sl lk_101, o_indexAddrS es_101, sz_85, o_mkI ii_93, ze_101, o_buildSlice es_101 ze_101 (by decide) ba_101_1, ap_101, builtin_append ni_101, o_mkI ii_94, za_103, o_build za_103 pl_103, o_indexAddrS es_104, ze_104, o_buildSlice es_104 ze_104 (by decide) ba_104_4, lenA_sl lk_104, loadA_eq ia_103, sz_103, o_fieldAddr fa_103_2 (by decide), o_fieldAddr fa_103_0 (by decide), o_fieldAddr fa_103_1 (by decide), optAll, renB, ptrB, ptrFn, renFn, idx]
section
variable {Wf HH : Nat} {o : Int} {off n : Nat} (c : Nat) {cs : List Value} (own : Bool) {nd : Nat → Int} {X Y W H : Nat}
theorem ring_ok (F : Fld Wf HH o off n cs nd) (hW : 1 ≤ W) (hH : 1 ≤ H) (hX : X + W + 1 ≤ Wf) (hY : Y + H + 1 ≤ HH) : okP 61800 (ringP (gr Wf nd) X Y W H) := by
  obtain ⟨p, hp, po, _⟩ := loop_all 0 true F hW hH hX hY
  rw [← hp]
  have hw := F.hw; have hh := F.hh
  exact (stp_ok po (F.at (by omega) (by omega)).1 (by omega)).mono (by omega)
theorem wrap_div {R : Int} (h : -1000000 ≤ R ∧ R ≤ 1000000) : IntKind.i64.wrap (R.tdiv 3600) = R.tdiv 3600 := by
  rcases Int.le_total 0 R with h0 | h0
  · rw [Int.tdiv_eq_ediv_of_nonneg h0]
    exact wrap_i64_id (by omega) (by omega)
  · have e : R.tdiv 3600 = -((-R).tdiv 3600) := by rw [Int.neg_tdiv, Int.neg_neg]
    rw [e, Int.tdiv_eq_ediv_of_nonneg (by omega)]
    exact wrap_i64_id (by omega) (by omega)
theorem c44 (F : Fld Wf HH o off n cs nd) (hW : 1 ≤ W) (hH : 1 ≤ H) (hX : X + W + 1 ≤ Wf) (hY : Y + H + 1 ≤ HH) :
    LL.run 44 [fv Wf HH o 0 off n c, bv X Y W H] [.cells cs 1 true own] = some ⟨iv ((ringP (gr Wf nd) X Y W H).2.tdiv 3600), [], []⟩ := by
  refine go (by decide) ?_
  rw [run44 _ _ _ (by simp)]
  have h53 : callH LL 53 [fv Wf HH o 0 off n c, bv X Y W H] [.cells cs 1 true own, fb Wf HH o 0 off n c, bb X Y W H, c1 0, c1 (-1)] =
      some ⟨.func (.func 56) #[] #[.pointer (some ⟨5, 0, none⟩), .pointer (some ⟨6, 0, none⟩)], [.cells cs 1 true own, fb Wf HH o 0 off n c, bb X Y W H, c1 0, c1 (-1), bb X Y W H, fb Wf HH o 0 off n c], [0], []⟩ := by
    have e := c53 Wf HH o off n c X Y W H cs own
    have hp : ([fv Wf HH o 0 off n c, bv X Y W H] : List Value).flatMap (ptrV dep) = [0] := ptr_fv2 rfl
    have hr : optAll (renV (idx [0]) dep) [fv Wf HH o 0 off n c, bv X Y W H] = some [fv Wf HH o 0 off n c, bv X Y W H] := ren_fv2 rfl
    unfold callH
    simp only [hp]
    rw [reach_one (blk := .cells cs 1 true own) rfl rfl (by decide)]
    simp only [hr]
    simp [optAll, renB, e, mergeB, renV_func, renFn, renL, renV_ptr, renL_eq, renV_int, renV_sl, dep, nblt, fb, bb]
  have h56 : callH LL 56 [.func (.yield 7) #[] #[], .pointer (some ⟨5, 0, none⟩), .pointer (some ⟨6, 0, none⟩)] [.cells cs 1 true own, fb Wf HH o 0 off n c, bb X Y W H, c1 0, c1 (-1), bb X Y W H, fb Wf HH o 0 off n c, .loop (lp44 4 3)] =
      some ⟨.tuple #[], [.cells cs 1 true own, fb Wf HH o 0 off n c, bb X Y W H, c1 (ringP (gr Wf nd) X Y W H).2, c1 (gr Wf nd X Y), bb X Y W H, fb Wf HH o 0 off n c, .loop (lp44 4 3)], [7, 4, 3, 5, 6, 0], [7, 4, 3]⟩ := by
    have e := c56 c own F hW hH hX hY
    simp only [lp44, c1, bb, fb] at e ⊢
    unfold callH
    simp [ptrV_func, ptrV_ptr, ptrFn, ptrL, dep, reach, reachN, ptrB, ptrT, mem, nblt, nbeq, ptrL_eq, ptrV_int, ptrV_sl, optAll, renL_eq, renL, renV_func, renFn, renV_ptr, renV_int, renV_sl, idx, renB, renT, e, mergeB, renV_tuple]
  simp only [c1, bb, fb] at h53
  simp (disch := first | omega | decide | assumption | simp [scal]) [runOps_nil, runOps_cons, runOpsF_nil, runOpsF_cons, fstS_some, fstF_some, opStep_eq, want_none, oStep_true, oStep_false, fin_pure, fin_read, fin_alloc, fin_write, storeB, wrN, cellV, addWr, o_move, o_assign, o_pick, o_alloc, o_box, o_load, o_store, o_nilCheck, o_bin, o_un, o_extract, o_callV, o_callB, o_callI, callV_f, callV_y, callV_fc, o_makeFunc, partsA, Instr.fill, builtin_len, builtin_max2, bin_add, bin_sub, bin_mul, bin_quo, bin_rem, bin_lss, bin_leq, bin_gtr, bin_geq, bin_eql, bin_neq, un_neg, un_not, opd, opds, optAll, lk, putO, put, has, rep, nbeq, nblt, constOk, isC, ops, sub, cl, cr, co, bodyOf, thenS_normal, thenS_ret, thenS_exit, thenS_goto, afterN_normal, afterN_ret, afterN_exit, afterN_goto, condS_true, condS_false, blockS_normal, blockS_ret, blockS_exit, blockS_goto, loopS_exit, loopS_ret, plainS_some, drawS_some, fpsOk, disj, unord, mem, range', dropTo, enumT, undef, wrap_i64_id, Value.cells, mkCells, ptrTo, scal, cellsAt, rdN, endS_ret, resultsA, Option.bind_some, tupV, finish, reach, reachN, dep, ptrL_eq, ptrL, renL_eq, renL, ptrV_bool, ptrV_int, ptrV_string, ptrV_nilFunc, ptrV_nilIface, ptrV_nilPtr, ptrV_ptr, ptrV_nilSl, ptrV_sl, ptrV_iface, ptrV_agg, ptrV_tuple, ptrV_func, renV_bool, renV_int, renV_string, renV_nilFunc, renV_nilIface, renV_nilPtr, renV_ptr, renV_nilSl, renV_sl, renV_iface, renV_agg, renV_tuple, renV_func, za_3, sz_3, loadA_eq ia_24, loadA_eq ia_35, loadA_eq ia_3, n44_1s, n44_3s, n44_6s, n44_9s, n44_13s, n44_15s, n44_16s, n44_14s, n44_12s, n44_17s, n44_11s, n44_10s, n44_7s, n44_5s, n44_19s, n44_20s, n44_18s, n44_4s, n44_2s, n44_0s, Try.f44, h53]
  rw [range_step n44_8e n44_8k rfl]
  simp only [lp44, c1, bb, fb] at h56
  simp (disch := first | omega | decide | assumption | simp [scal]) [runOps_nil, runOps_cons, runOpsF_nil, runOpsF_cons, fstS_some, fstF_some, opStep_eq, want_none, oStep_true, oStep_false, fin_pure, fin_read, fin_alloc, fin_write, storeB, wrN, cellV, addWr, o_move, o_assign, o_pick, o_alloc, o_box, o_load, o_store, o_nilCheck, o_bin, o_un, o_extract, o_callV, o_callB, o_callI, callV_f, callV_y, callV_fc, o_makeFunc, partsA, Instr.fill, builtin_len, builtin_max2, bin_add, bin_sub, bin_mul, bin_quo, bin_rem, bin_lss, bin_leq, bin_gtr, bin_geq, bin_eql, bin_neq, un_neg, un_not, opd, opds, optAll, lk, putO, put, has, rep, nbeq, nblt, constOk, isC, ops, sub, cl, cr, co, bodyOf, thenS_normal, thenS_ret, thenS_exit, thenS_goto, afterN_normal, afterN_ret, afterN_exit, afterN_goto, condS_true, condS_false, blockS_normal, blockS_ret, blockS_exit, blockS_goto, loopS_exit, loopS_ret, plainS_some, drawS_some, fpsOk, disj, unord, mem, range', dropTo, enumT, undef, wrap_i64_id, Value.cells, mkCells, ptrTo, scal, cellsAt, rdN, endS_ret, resultsA, Option.bind_some, tupV, finish, reach, reachN, dep, ptrL_eq, ptrL, renL_eq, renL, ptrV_bool, ptrV_int, ptrV_string, ptrV_nilFunc, ptrV_nilIface, ptrV_nilPtr, ptrV_ptr, ptrV_nilSl, ptrV_sl, ptrV_iface, ptrV_agg, ptrV_tuple, ptrV_func, renV_bool, renV_int, renV_string, renV_nilFunc, renV_nilIface, renV_nilPtr, renV_ptr, renV_nilSl, renV_sl, renV_iface, renV_agg, renV_tuple, renV_func, za_3, sz_3, loadA_eq ia_24, loadA_eq ia_35, loadA_eq ia_3, n44_1s, n44_3s, n44_6s, n44_9s, n44_13s, n44_15s, n44_16s, n44_14s, n44_12s, n44_17s, n44_11s, n44_10s, n44_7s, n44_5s, n44_19s, n44_20s, n44_18s, n44_4s, n44_2s, n44_0s, Try.f44, keepT, mem, h56]
  rw [rangeE_ready rfl rfl rfl]
  have hq := ring_ok F hW hH hX hY
  have hw := wrap_div (R := (ringP (gr Wf nd) X Y W H).2) (by have := hq.2; omega)
  simp (disch := first | omega | decide | assumption | simp [scal]) [runOps_nil, runOps_cons, runOpsF_nil, runOpsF_cons, fstS_some, fstF_some, opStep_eq, want_none, oStep_true, oStep_false, fin_pure, fin_read, fin_alloc, fin_write, storeB, wrN, cellV, addWr, o_move, o_assign, o_pick, o_alloc, o_box, o_load, o_store, o_nilCheck, o_bin, o_un, o_extract, o_callV, o_callB, o_callI, callV_f, callV_y, callV_fc, o_makeFunc, partsA, Instr.fill, builtin_len, builtin_max2, bin_add, bin_sub, bin_mul, bin_quo, bin_rem, bin_lss, bin_leq, bin_gtr, bin_geq, bin_eql, bin_neq, un_neg, un_not, opd, opds, optAll, lk, putO, put, has, rep, nbeq, nblt, constOk, isC, ops, sub, cl, cr, co, bodyOf, thenS_normal, thenS_ret, thenS_exit, thenS_goto, afterN_normal, afterN_ret, afterN_exit, afterN_goto, condS_true, condS_false, blockS_normal, blockS_ret, blockS_exit, blockS_goto, loopS_exit, loopS_ret, plainS_some, drawS_some, fpsOk, disj, unord, mem, range', dropTo, enumT, undef, wrap_i64_id, Value.cells, mkCells, ptrTo, scal, cellsAt, rdN, endS_ret, resultsA, Option.bind_some, tupV, finish, reach, reachN, dep, ptrL_eq, ptrL, renL_eq, renL, ptrV_bool, ptrV_int, ptrV_string, ptrV_nilFunc, ptrV_nilIface, ptrV_nilPtr, ptrV_ptr, ptrV_nilSl, ptrV_sl, ptrV_iface, ptrV_agg, ptrV_tuple, ptrV_func, renV_bool, renV_int, renV_string, renV_nilFunc, renV_nilIface, renV_nilPtr, renV_ptr, renV_nilSl, renV_sl, renV_iface, renV_agg, renV_tuple, renV_func, za_3, sz_3, loadA_eq ia_24, loadA_eq ia_35, loadA_eq ia_3, n44_1s, n44_3s, n44_6s, n44_9s, n44_13s, n44_15s, n44_16s, n44_14s, n44_12s, n44_17s, n44_11s, n44_10s, n44_7s, n44_5s, n44_19s, n44_20s, n44_18s, n44_4s, n44_2s, n44_0s, Try.f44, hw]
end
end Go.Proofs.Ytgpcjdhlijompaa.ore
namespace Go.Proofs.Ytgpcjdhlijompaa.ore
open Go.GE
set_option linter.unusedVariables false
set_option linter.unusedSimpArgs false
set_option maxRecDepth 100000
def sum2 (a b : Nat → Int) (s : Int) : Nat → Int
  | 0 => s
  | r + 1 => sum2 a b s r + a r + b r
def bA (g : Nat → Nat → Int) (X Y r : Nat) : Int := turnS (g (X + r) Y) (g (X + r + 1) Y)
def bB (g : Nat → Nat → Int) (X Y r : Nat) : Int := turnS (g (X + r + 1) Y) (g (X + r) Y)
def lA (g : Nat → Nat → Int) (X Y r : Nat) : Int := turnS (g X (Y + r)) (g X (Y + r + 1))
def lB (g : Nat → Nat → Int) (X Y r : Nat) : Int := turnS (g X (Y + r + 1)) (g X (Y + r))
/-- the turns along a block's border, side by side -/
def ringR (g : Nat → Nat → Int) (X Y W H : Nat) : Int := sum2 (lA g (X + W) Y) (lB g X Y) (sum2 (bA g X Y) (bB g X (Y + H)) 0 W) H
end Go.Proofs.Ytgpcjdhlijompaa.ore
namespace Go.Proofs.Ytgpcjdhlijompaa.ore
open Go.GE
set_option linter.unusedVariables false
set_option linter.unusedSimpArgs false
def sumN (f : Nat → Int) : Nat → Int
  | 0 => 0
  | r + 1 => sumN f r + f r
theorem sumN_congr {f g : Nat → Int} : ∀ {n : Nat}, (∀ i, i < n → f i = g i) → sumN f n = sumN g n := by
  intro n
  induction n with
  | zero => intro _; rfl
  | succ n ih => intro h; simp only [sumN, ih fun i hi => h i (by omega), h n (by omega)]
theorem sumN_front (f : Nat → Int) (n : Nat) : sumN f (n + 1) = f 0 + sumN (fun i => f (i + 1)) n := by
  induction n with
  | zero => simp [sumN]
  | succ n ih => rw [sumN, ih, sumN]; omega
theorem sumN_rev (f : Nat → Int) (n : Nat) : sumN f n = sumN (fun i => f (n - 1 - i)) n := by
  induction n with
  | zero => rfl
  | succ n ih =>
    rw [sumN_front (fun i => f (n + 1 - 1 - i))]
    simp only [sumN]
    have : sumN (fun i => f (n + 1 - 1 - (i + 1))) n = sumN (fun i => f (n - 1 - i)) n := sumN_congr fun i hi => by congr 1; omega
    rw [this, ← ih]
    simp; omega
theorem sumN_neg (f : Nat → Int) (n : Nat) : sumN (fun i => -f i) n = -sumN f n := by
  induction n with
  | zero => rfl
  | succ n ih => simp only [sumN, ih]; omega
theorem sumN_split (f : Nat → Int) (a b : Nat) : sumN f (a + b) = sumN f a + sumN (fun i => f (a + i)) b := by
  induction b with
  | zero => simp [sumN]
  | succ b ih => rw [← Nat.add_assoc, sumN, ih, sumN]; omega
theorem sum2_eq (a b : Nat → Int) (s : Int) (r : Nat) : sum2 a b s r = s + sumN a r + sumN b r := by
  induction r with
  | zero => simp [sum2, sumN]
  | succ r ih => simp only [sum2, sumN, ih]; omega
theorem runF_val {p : Int × Int} {v : Nat → Int} (hp : 0 ≤ p.1) : ∀ r, (∀ i, i < r + 1 → 0 ≤ v i) → runF p v (r + 1) = (v r, p.2 + turnS p.1 (v 0) + sumN (fun i => turnS (v i) (v (i + 1))) r) := by
  intro r
  induction r with
  | zero =>
    intro _
    have : ¬ p.1 < 0 := by omega
    simp [runF, stp, sumN, this]
  | succ r ih =>
    intro hv
    rw [runF, ih fun i hi => hv i (by omega)]
    have : ¬ v r < 0 := by have := hv r (by omega); omega
    simp only [stp, this, if_false, sumN]
    congr 1
    omega
theorem runF_val0 {v : Nat → Int} : ∀ r, (∀ i, i < r + 1 → 0 ≤ v i) → runF (-1, 0) v (r + 1) = (v r, sumN (fun i => turnS (v i) (v (i + 1))) r) := by
  intro r
  induction r with
  | zero => intro _; simp [runF, stp, sumN]
  | succ r ih =>
    intro hv
    rw [runF, ih fun i hi => hv i (by omega)]
    have : ¬ v r < 0 := by have := hv r (by omega); omega
    simp only [stp, this, if_false, sumN]
/-- the border's walk and the sides' sums are the same -/
theorem ring_eq {g : Nat → Nat → Int} {X Y W H : Nat} (hW : 1 ≤ W) (hH : 1 ≤ H) (hg : ∀ x y, x ≤ X + W → y ≤ Y + H → 0 ≤ g x y) : (ringP g X Y W H).2 = ringR g X Y W H := by
  obtain ⟨w, rfl⟩ : ∃ k, W = k + 1 := ⟨W - 1, by omega⟩
  obtain ⟨h, rfl⟩ : ∃ k, H = k + 1 := ⟨H - 1, by omega⟩
  have hg0 := hg X Y (by omega) (by omega)
  unfold ringP
  rw [runF_val0 w fun i hi => hg _ _ (by omega) (by omega)]
  rw [runF_val (hg _ _ (by omega) (by omega)) h fun i hi => hg _ _ (by omega) (by omega)]
  rw [runF_val (hg _ _ (by omega) (by omega)) w fun i hi => hg _ _ (by omega) (by omega)]
  rw [runF_val (hg _ _ (by omega) (by omega)) h fun i hi => hg _ _ (by omega) (by omega)]
  have hlast : ¬ g X (Y + (h + 1) - h) < 0 := by have := hg X (Y + (h + 1) - h) (by omega) (by omega); omega
  simp only [stp, hlast, if_false]
  have s1 : sumN (fun i => turnS (g (X + i) Y) (g (X + (i + 1)) Y)) w + turnS (g (X + w) Y) (g (X + (w + 1)) (Y + 0)) = sumN (bA g X Y) (w + 1) := rfl
  have s2 : sumN (fun i => turnS (g (X + (w + 1)) (Y + i)) (g (X + (w + 1)) (Y + (i + 1)))) h + turnS (g (X + (w + 1)) (Y + h)) (g (X + (w + 1) - 0) (Y + (h + 1))) = sumN (lA g (X + (w + 1)) Y) (h + 1) := rfl
  have s3 : sumN (fun i => turnS (g (X + (w + 1) - i) (Y + (h + 1))) (g (X + (w + 1) - (i + 1)) (Y + (h + 1)))) w + turnS (g (X + (w + 1) - w) (Y + (h + 1))) (g X (Y + (h + 1) - 0)) = sumN (bB g X (Y + (h + 1))) (w + 1) := by
    rw [sumN_rev (bB g X (Y + (h + 1))) (w + 1)]
    simp only [sumN]
    congr 1
    · refine sumN_congr fun i hi => ?_
      unfold bB
      congr 2 <;> omega
    · unfold bB
      congr 2 <;> omega
  have s4 : sumN (fun i => turnS (g X (Y + (h + 1) - i)) (g X (Y + (h + 1) - (i + 1)))) h + turnS (g X (Y + (h + 1) - h)) (g X Y) = sumN (lB g X Y) (h + 1) := by
    rw [sumN_rev (lB g X Y) (h + 1)]
    simp only [sumN]
    congr 1
    · refine sumN_congr fun i hi => ?_
      unfold lB
      congr 2 <;> omega
    · unfold lB
      congr 2 <;> omega
  unfold ringR
  rw [sum2_eq, sum2_eq, ← s1, ← s2, ← s3, ← s4]
  omega
end Go.Proofs.Ytgpcjdhlijompaa.ore
namespace Go.Proofs.Ytgpcjdhlijompaa.ore
open Go.GE
set_option linter.unusedVariables false
set_option linter.unusedSimpArgs false
set_option maxRecDepth 100000
/-- a checked field -/
theorem chk_zero {w hh o : Int} {n off : Nat} {cs : List Value} {nd : Nat → Int} (h : chk w hh o n nd = 0) (hcs : ∀ i, i < n → cs[off + i]? = some (iv (nd i))) :
    ∃ Wf HH : Nat, w = Wf ∧ hh = HH ∧ Fld Wf HH o off n cs nd ∧ ∀ i, i < n → ¬ badAt Wf o nd i := by
  unfold chk at h
  split at h
  · exact absurd h (by decide)
  · rename_i h1
    split at h
    · exact absurd h (by decide)
    · rename_i h2
      split at h
      · exact absurd h (by decide)
      · rename_i h3
        split at h
        · exact absurd h (by decide)
        · rename_i h4
          have hd := Classical.not_not.1 h1
          have hn := Classical.not_not.1 h2
          obtain ⟨d1, d2, d3⟩ := hd
          obtain ⟨Wf, rfl⟩ : ∃ k : Nat, w = k := ⟨w.toNat, by omega⟩
          obtain ⟨HH, rfl⟩ : ∃ k : Nat, hh = k := ⟨hh.toNat, by omega⟩
          refine ⟨Wf, HH, rfl, rfl, ⟨by omega, by omega, d3, ?_, hcs, fun i hi => Classical.byContradiction fun hc => h3 ⟨i, hi, hc⟩⟩, fun i hi hb => h4 ⟨i, hi, by simpa using hb⟩⟩
          rw [Nat.mul_comm]
          have : ((n : Nat) : Int) = ((Wf * HH : Nat) : Int) := by rw [hn]; simp
          omega
def indx (g : Nat → Nat → Int) (X Y W H : Nat) : Int := (ringR g X Y W H).tdiv 3600
section
variable {Wf HH : Nat} {o : Int} {off n : Nat} (c b : Nat) {cs : List Value} {own : Bool} {nd : Nat → Int} {X Y W H : Nat} {h : List Blk}
theorem ring_same (F : Fld Wf HH o off n cs nd) (hW : 1 ≤ W) (hH : 1 ≤ H) (hX : X + W + 1 ≤ Wf) (hY : Y + H + 1 ≤ HH) : (ringP (gr Wf nd) X Y W H).2 = ringR (gr Wf nd) X Y W H :=
  ring_eq hW hH fun x y hx hy => (F.at (by omega) (by omega)).1.1
theorem k44 (F : Fld Wf HH o off n cs nd) (hb : h[b]? = some (.cells cs 1 true own)) (hW : 1 ≤ W) (hH : 1 ≤ H) (hX : X + W + 1 ≤ Wf) (hY : Y + H + 1 ≤ HH) :
    callH LL 44 [fv Wf HH o b off n c, bv X Y W H] h = some ⟨iv (indx (gr Wf nd) X Y W H), h, [b], []⟩ := by
  have e := c44 c own F hW hH hX hY
  rw [ring_same F hW hH hX hY] at e
  exact callG hb rfl e rfl
end
open Classical in
/-- what 'Index' answers -/
noncomputable def ires (w hh o : Int) (n : Nat) (nd : Nat → Int) (X Y W H : Int) : Int × Int :=
  if chk w hh o n nd ≠ 0 then (0, chk w hh o n nd) else if ¬ hasB w hh X Y W H then (0, 1) else (indx (gr w.toNat nd) X.toNat Y.toNat W.toNat H.toNat, 0)
abbrev pr (p : Int × Int) : Value := .tuple #[iv p.1, iv p.2]
section
variable (w hh o : Int) (off n c : Nat) (X Y W H : Int) (cs : List Value) (own : Bool) (nd : Nat → Int)
theorem c20 (hcs : ∀ i, i < n → cs[off + i]? = some (iv (nd i))) (hn : n ≤ 200) : LL.run 20 [fv w hh o 0 off n c, bv X Y W H] [.cells cs 1 true own] = some ⟨pr (ires w hh o n nd X Y W H), [], []⟩ := by
  refine go (by decide) ?_
  rw [run20 _ _ _ (by simp)]
  have a1 := fun rest : List Blk => k17 w hh o 0 off n c nd (h := .cells cs 1 true own :: rest) rfl hcs hn
  by_cases h0 : chk w hh o n nd = 0
  · obtain ⟨Wf, HH, rfl, rfl, F, _⟩ := chk_zero h0 hcs
    have hw := F.hw; have hh := F.hh
    have a2 := fun rest : List Blk => k43 Wf HH o 0 off n c X Y W H (h := .cells cs 1 true own :: rest) rfl (by omega) (by omega)
    by_cases hb : hasB Wf HH X Y W H
    · have er : ires Wf HH o n nd X Y W H = (indx (gr Wf nd) X.toNat Y.toNat W.toNat H.toNat, 0) := by simp only [ires, h0, hb, ne_eq, not_true, if_false, Int.toNat_natCast]
      rw [er]
      have hb' := hb
      obtain ⟨b1, b2, b3, b4⟩ := hb'
      obtain ⟨X', rfl⟩ : ∃ k : Nat, X = k := ⟨X.toNat, by omega⟩
      obtain ⟨Y', rfl⟩ : ∃ k : Nat, Y = k := ⟨Y.toNat, by omega⟩
      obtain ⟨W', rfl⟩ : ∃ k : Nat, W = k := ⟨W.toNat, by omega⟩
      obtain ⟨H', rfl⟩ : ∃ k : Nat, H = k := ⟨H.toNat, by omega⟩
      have a3 := fun rest : List Blk => k44 (own := own) c 0 (h := .cells cs 1 true own :: rest) F rfl (X := X') (Y := Y') (W := W') (H := H') (by omega) (by omega) (by omega) (by omega)
      simp only [Int.toNat_natCast]
      simp (disch := first | omega | decide | assumption | simp [scal]) [runOps_nil, runOps_cons, runOpsF_nil, runOpsF_cons, fstS_some, fstF_some, opStep_eq, want_none, oStep_true, oStep_false, fin_pure, fin_read, fin_alloc, fin_write, storeB, wrN, cellV, addWr, o_move, o_assign, o_pick, o_alloc, o_box, o_load, o_store, o_nilCheck, o_bin, o_un, o_extract, o_callV, o_callB, o_callI, callV_f, callV_y, callV_fc, o_makeFunc, partsA, Instr.fill, builtin_len, builtin_max2, bin_add, bin_sub, bin_mul, bin_quo, bin_rem, bin_lss, bin_leq, bin_gtr, bin_geq, bin_eql, bin_neq, un_neg, un_not, opd, opds, optAll, lk, putO, put, has, rep, nbeq, nblt, constOk, isC, ops, sub, cl, cr, co, bodyOf, thenS_normal, thenS_ret, thenS_exit, thenS_goto, afterN_normal, afterN_ret, afterN_exit, afterN_goto, condS_true, condS_false, blockS_normal, blockS_ret, blockS_exit, blockS_goto, loopS_exit, loopS_ret, plainS_some, drawS_some, fpsOk, disj, unord, mem, range', dropTo, enumT, undef, wrap_i64_id, Value.cells, mkCells, ptrTo, scal, cellsAt, rdN, endS_ret, resultsA, Option.bind_some, tupV, finish, reach, reachN, dep, ptrL_eq, ptrL, renL_eq, renL, ptrV_bool, ptrV_int, ptrV_string, ptrV_nilFunc, ptrV_nilIface, ptrV_nilPtr, ptrV_ptr, ptrV_nilSl, ptrV_sl, ptrV_iface, ptrV_agg, ptrV_tuple, ptrV_func, renV_bool, renV_int, renV_string, renV_nilFunc, renV_nilIface, renV_nilPtr, renV_ptr, renV_nilSl, renV_sl, renV_iface, renV_agg, renV_tuple, renV_func, loadA_eq ia_24, loadA_eq ia_35, n20_1s, n20_3s, n20_7s, n20_10s, n20_11s, n20_9s, n20_13s, n20_16s, n20_17s, n20_15s, n20_18s, n20_14s, n20_12s, n20_8s, n20_6s, n20_5s, n20_20s, n20_21s, n20_19s, n20_4s, n20_2s, n20_0s, Try.f20, a1, a2, a3, h0, hb]
    · have er : ires Wf HH o n nd X Y W H = (0, 1) := by simp only [ires, h0, hb, ne_eq, not_true, if_false, not_false_eq_true, if_true]
      rw [er]
      simp (disch := first | omega | decide | assumption | simp [scal]) [runOps_nil, runOps_cons, runOpsF_nil, runOpsF_cons, fstS_some, fstF_some, opStep_eq, want_none, oStep_true, oStep_false, fin_pure, fin_read, fin_alloc, fin_write, storeB, wrN, cellV, addWr, o_move, o_assign, o_pick, o_alloc, o_box, o_load, o_store, o_nilCheck, o_bin, o_un, o_extract, o_callV, o_callB, o_callI, callV_f, callV_y, callV_fc, o_makeFunc, partsA, Instr.fill, builtin_len, builtin_max2, bin_add, bin_sub, bin_mul, bin_quo, bin_rem, bin_lss, bin_leq, bin_gtr, bin_geq, bin_eql, bin_neq, un_neg, un_not, opd, opds, optAll, lk, putO, put, has, rep, nbeq, nblt, constOk, isC, ops, sub, cl, cr, co, bodyOf, thenS_normal, thenS_ret, thenS_exit, thenS_goto, afterN_normal, afterN_ret, afterN_exit, afterN_goto, condS_true, condS_false, blockS_normal, blockS_ret, blockS_exit, blockS_goto, loopS_exit, loopS_ret, plainS_some, drawS_some, fpsOk, disj, unord, mem, range', dropTo, enumT, undef, wrap_i64_id, Value.cells, mkCells, ptrTo, scal, cellsAt, rdN, endS_ret, resultsA, Option.bind_some, tupV, finish, reach, reachN, dep, ptrL_eq, ptrL, renL_eq, renL, ptrV_bool, ptrV_int, ptrV_string, ptrV_nilFunc, ptrV_nilIface, ptrV_nilPtr, ptrV_ptr, ptrV_nilSl, ptrV_sl, ptrV_iface, ptrV_agg, ptrV_tuple, ptrV_func, renV_bool, renV_int, renV_string, renV_nilFunc, renV_nilIface, renV_nilPtr, renV_ptr, renV_nilSl, renV_sl, renV_iface, renV_agg, renV_tuple, renV_func, loadA_eq ia_24, loadA_eq ia_35, n20_1s, n20_3s, n20_7s, n20_10s, n20_11s, n20_9s, n20_13s, n20_16s, n20_17s, n20_15s, n20_18s, n20_14s, n20_12s, n20_8s, n20_6s, n20_5s, n20_20s, n20_21s, n20_19s, n20_4s, n20_2s, n20_0s, Try.f20, a1, a2, h0, hb]
  · have er : ires w hh o n nd X Y W H = (0, chk w hh o n nd) := by simp only [ires, h0, ne_eq, not_false_eq_true, if_true]
    rw [er]
    simp (disch := first | omega | decide | assumption | simp [scal]) [runOps_nil, runOps_cons, runOpsF_nil, runOpsF_cons, fstS_some, fstF_some, opStep_eq, want_none, oStep_true, oStep_false, fin_pure, fin_read, fin_alloc, fin_write, storeB, wrN, cellV, addWr, o_move, o_assign, o_pick, o_alloc, o_box, o_load, o_store, o_nilCheck, o_bin, o_un, o_extract, o_callV, o_callB, o_callI, callV_f, callV_y, callV_fc, o_makeFunc, partsA, Instr.fill, builtin_len, builtin_max2, bin_add, bin_sub, bin_mul, bin_quo, bin_rem, bin_lss, bin_leq, bin_gtr, bin_geq, bin_eql, bin_neq, un_neg, un_not, opd, opds, optAll, lk, putO, put, has, rep, nbeq, nblt, constOk, isC, ops, sub, cl, cr, co, bodyOf, thenS_normal, thenS_ret, thenS_exit, thenS_goto, afterN_normal, afterN_ret, afterN_exit, afterN_goto, condS_true, condS_false, blockS_normal, blockS_ret, blockS_exit, blockS_goto, loopS_exit, loopS_ret, plainS_some, drawS_some, fpsOk, disj, unord, mem, range', dropTo, enumT, undef, wrap_i64_id, Value.cells, mkCells, ptrTo, scal, cellsAt, rdN, endS_ret, resultsA, Option.bind_some, tupV, finish, reach, reachN, dep, ptrL_eq, ptrL, renL_eq, renL, ptrV_bool, ptrV_int, ptrV_string, ptrV_nilFunc, ptrV_nilIface, ptrV_nilPtr, ptrV_ptr, ptrV_nilSl, ptrV_sl, ptrV_iface, ptrV_agg, ptrV_tuple, ptrV_func, renV_bool, renV_int, renV_string, renV_nilFunc, renV_nilIface, renV_nilPtr, renV_ptr, renV_nilSl, renV_sl, renV_iface, renV_agg, renV_tuple, renV_func, loadA_eq ia_24, loadA_eq ia_35, n20_1s, n20_3s, n20_7s, n20_10s, n20_11s, n20_9s, n20_13s, n20_16s, n20_17s, n20_15s, n20_18s, n20_14s, n20_12s, n20_8s, n20_6s, n20_5s, n20_20s, n20_21s, n20_19s, n20_4s, n20_2s, n20_0s, Try.f20, a1, h0]
end
theorem k20 (w hh o : Int) (b off n c : Nat) (X Y W H : Int) (nd : Nat → Int) {h : List Blk} {cs : List Value} {own : Bool} (hb : h[b]? = some (.cells cs 1 true own)) (hcs : ∀ i, i < n → cs[off + i]? = some (iv (nd i))) (hn : n ≤ 200) :
    callH LL 20 [fv w hh o b off n c, bv X Y W H] h = some ⟨pr (ires w hh o n nd X Y W H), h, [b], []⟩ := callG hb rfl (c20 w hh o off n c X Y W H cs own nd hcs hn) rfl
end Go.Proofs.Ytgpcjdhlijompaa.ore
namespace Go.Proofs.Ytgpcjdhlijompaa.ore
open Go.GE
set_option linter.unusedVariables false
set_option linter.unusedSimpArgs false
set_option maxRecDepth 100000
theorem ptrB_flat {cs : List Value} {e : Nat} {own : Bool} : ptrB (.cells cs e true own) = [] := rfl
theorem ptrB_non {cs : List Value} {e : Nat} {own : Bool} : ptrB (.cells cs e false own) = ptrL dep cs := ptrL_eq
theorem renB_flat {f : Nat → Option Nat} {cs : List Value} {e : Nat} {own : Bool} : renB f (.cells cs e true own) = some (.cells cs e true own) := rfl
theorem renB_non {f : Nat → Option Nat} {cs : List Value} {e : Nat} {own : Bool} : renB f (.cells cs e false own) = (renL f dep cs).map fun l => .cells l e false own := by rw [← renL_eq]; rfl
end Go.Proofs.Ytgpcjdhlijompaa.ore
namespace Go.Proofs.Ytgpcjdhlijompaa.ore
open Go.GE
set_option linter.unusedVariables false
set_option linter.unusedSimpArgs false
set_option maxRecDepth 100000
theorem has_big {m : Nat} : ∀ {τ : Tm}, (τ.all fun p => Nat.blt p.1 m) = true → ∀ t, m ≤ t → has τ t = false := by
  intro τ
  induction τ with
  | nil => intro _ _ _; rfl
  | cons p τ ih =>
    intro h t ht
    obtain ⟨a, v⟩ := p
    simp only [List.all_cons, Bool.and_eq_true, GE.blt_iff] at h
    have : Nat.beq a t = false := GE.beq_false.2 (by have := h.1; omega)
    simp only [has, this, cond_false]
    exact ih h.2 t ht
theorem drop_cons {m : Nat} {p : Nat × Value} {σ : Tm} (h : m ≤ σ.length) : dropTo m (p :: σ) = dropTo m σ := by
  unfold dropTo
  rw [List.length_cons, show σ.length + 1 - m = (σ.length - m) + 1 by omega, List.drop_succ_cons]
theorem drop_self {σ : Tm} {m : Nat} (h : m = σ.length) : dropTo m σ = σ := by
  subst h; unfold dropTo; simp
end Go.Proofs.Ytgpcjdhlijompaa.ore
