/-
  Contracts of functions of the program at the limit evaluator, continued. No condition.
-/
import Derived.Test.YtgpcjdhlijompaaXE

namespace Go.Proofs.Ytgpcjdhlijompaa.ore
open Go.GE
set_option linter.unusedVariables false
set_option linter.unusedSimpArgs false
set_option maxRecDepth 100000
theorem tT_b (w h : Nat) : 0 ≤ tT w h ∧ tT w h ≤ 15 := by
  unfold tT
  by_cases hn : w * 9 + h < 81
  · have : ∀ n : Nat, n < 81 → 0 ≤ tabT.getD n 0 ∧ tabT.getD n 0 ≤ 15 := by decide
    exact this _ hn
  · rw [List.getD_eq_getElem?_getD, List.getElem?_eq_none (by simp [tabT]; omega)]
    decide
theorem eql_lv {l : Ln} : binA Try.prog .eql 85 true (lv l) .nilIface = some (.bool false) := eqlI1
theorem max_if (a b : Int) : (if a < b then b else a) = max a b := by omega
def lnOf (lay : Bool) : Nat := if lay then 3 else 4
def bxOf (lay : Bool) : Nat := if lay then 4 else 3
def restOf (lay : Bool) (b : Blk) (l : List Ln) : List Blk := if lay then [linB l, b] else [b, linB l]
section
variable (X Y : Int) (W H : Nat) (l : List Ln)
def pre54 (ln : Nat) (τ : Tm) (i : Int) (way : Option Ln) (least : Int) : Tm :=
  (46, iv i) :: (45, iv l.length) :: (44, .slice (some ⟨ln, 0, none⟩) l.length l.length) :: (43, bv X Y W H) :: (6, wv way) :: (5, iv least) :: τ
/-- two blocks' values, after a round -/
def boxOf (X Y W H : Int) : Blk := .cells [iv X, iv Y, iv W, iv H] 1 true true
def cut1 (p : Ln) : Blk := if p.1 then boxOf X Y p.2 H else boxOf X Y W p.2
def cut2 (p : Ln) : Blk := if p.1 then boxOf (X + p.2) Y (W - p.2 : Nat) H else boxOf X (Y + p.2) W (H - p.2 : Nat)
set_option maxHeartbeats 20000000 in
theorem rnd54 (lay : Bool) (hX : 0 ≤ X ∧ X + W ≤ 1000) (hY : 0 ≤ Y ∧ Y + H ≤ 1000) (hW : W ≤ 8) (hH : H ≤ 8) (hP : ∀ w h, 1 ≤ w → 1 ≤ h → w ≤ 8 → h ≤ 8 → w + h < W + H → P54 w h) (hlen : l.length ≤ 100)
    (τ : Tm) (h2 : lk τ 2 = some p2) (h3 : lk τ 3 = some (.pointer (some ⟨bxOf lay, 0, none⟩))) (hb : ∀ t, 47 ≤ t → has τ t = false) (hb8 : has τ 8 = false) (hb9 : has τ 9 = false) (hb10 : has τ 10 = false) (hb11 : has τ 11 = false)
    (S : Sz) (hS : DC S) (i : Nat) (p : Ln) (hi : l[i]? = some p) (hp : if p.1 then 1 ≤ p.2 ∧ p.2 < W ∧ 1 ≤ H else 1 ≤ p.2 ∧ p.2 < H ∧ 1 ≤ W) (way : Option Ln) (least : Int) (wr : List Nat) :
    ∃ wr', (wr' = addWr 3 (addWr 3 wr (wl S (one W H p).1 (one W H p).2)) (wl (add S (one W H p).1 (one W H p).2) (two W H p).1 (two W H p).2)) ∧
    codeB Try.prog LL ⟨54, 98, 3, none⟩ n54_19 ⟨pre54 X Y W H l (lnOf lay) τ i way least, aB :: planB S :: fB :: restOf lay (boxOf X Y W H) l, wr⟩ =
      some (.normal, ⟨(76, iv (i + 1)) :: (47, .bool true) :: pre54 X Y W H l (lnOf lay) τ (i + 1) (updL W H (least, way) p).2 (updL W H (least, way) p).1,
        aB :: planB (add (add S (one W H p).1 (one W H p).2) (two W H p).1 (two W H p).2) :: fB :: (restOf lay (boxOf X Y W H) l ++ [cut1 X Y W H p, cut2 X Y W H p]), wr'⟩) := by
  obtain ⟨tag, m⟩ := p
  have e1 : i < l.length := (List.getElem?_eq_some_iff.1 hi).1
  have elv : (l.map lv)[i]? = some (lv (tag, m)) := by rw [List.getElem?_map, hi]; rfl
  have tb := tT_b
  refine ⟨_, rfl, ?_⟩
  cases tag with
  | true =>
    simp only [if_true] at hp
    obtain ⟨m1, m2, m3⟩ := hp
    have t1 := tb m H
    have t2 := tb (W - m) H
    have hP1 := hP m H (by omega) (by omega) (by omega) (by omega) (by omega)
    have hP2 := hP (W - m) H (by omega) (by omega) (by omega) (by omega) (by omega)
    have eW : (W : Int) - m = ((W - m : Nat) : Int) := by omega
    have kp := fun h => k73 m X Y W H h (by unfold small; omega) (by unfold small; omega) (by unfold small; omega)
    rw [eW] at kp
    have kn := fun h => k72 m X Y W H h (by unfold small; omega)
    have c1 := fun rest : List Blk => k54 hP1 hS (x := X) (y := Y) (by omega) (by omega) hX.1 (by omega) hY.1 (by omega) rest
    have c2 := fun rest : List Blk => k54 hP2 (S := add S m H) (hS.add (by omega) (by omega)) (by omega) (by omega) (x := X + m) (y := Y) (by omega) (by omega) (by omega) (by omega) rest
    have w1 := wl_or S m H
    have w2 := wl_or (add S m H) (W - m) H
    simp only [fB, aB] at c1 c2 ⊢
    simp only [one, two, if_true]
    generalize wl S m H = u1 at *
    generalize wl (add S m H) (W - m) H = u2 at *
    simp only [updL, cst, ndl, one, two, cut1, cut2, if_true, boxOf]
    cases way with
    | none =>
      simp only [wv, true_or, if_true, pre54]
      cases lay <;> simp only [lnOf, bxOf, restOf, Bool.false_eq_true, if_true, if_false] at h3 ⊢ <;> rcases w1 with rfl | rfl <;> rcases w2 with rfl | rfl <;>
      simp (disch := first | omega | decide | assumption | simp [scal]) [runOps_nil, runOps_cons, runOpsF_nil, runOpsF_cons, fstS_some, fstF_some, opStep_eq, want_none, oStep_true, oStep_false, fin_pure, fin_read, fin_alloc, fin_write, storeB, wrN, cellV, addWr, o_move, o_assign, o_pick, o_alloc, o_box, o_load, o_store, o_nilCheck, o_bin, o_un, o_extract, o_callV, o_callB, o_callI, callV_f, callV_y, callV_fc, o_makeFunc, partsA, Instr.fill, builtin_len, builtin_max2, bin_add, bin_sub, bin_mul, bin_quo, bin_rem, bin_lss, bin_leq, bin_gtr, bin_geq, bin_eql, bin_neq, un_neg, un_not, opd, opds, optAll, lk, putO, put, has, rep, nbeq, nblt, constOk, isC, ops, sub, cl, cr, co, bodyOf, thenS_normal, thenS_ret, thenS_exit, thenS_goto, afterN_normal, afterN_ret, afterN_exit, afterN_goto, condS_true, condS_false, blockS_normal, blockS_ret, blockS_exit, blockS_goto, loopS_exit, loopS_ret, plainS_some, drawS_some, fpsOk, disj, unord, mem, range', dropTo, enumT, undef, wrap_i64_id, Value.cells, mkCells, ptrTo, scal, cellsAt, rdN, endS_ret, resultsA, Option.bind_some, tupV, finish, reach, reachN, dep, ptrL_eq, ptrL, renL_eq, renL, ptrV_bool, ptrV_int, ptrV_string, ptrV_nilFunc, ptrV_nilIface, ptrV_nilPtr, ptrV_ptr, ptrV_nilSl, ptrV_sl, ptrV_iface, ptrV_agg, ptrV_tuple, ptrV_func, renV_bool, renV_int, renV_string, renV_nilFunc, renV_nilIface, renV_nilPtr, renV_ptr, renV_nilSl, renV_sl, renV_iface, renV_agg, renV_tuple, renV_func, o_fieldAddr fa_35_2 (by decide), loadA_eq ia_3, o_fieldAddr fa_35_3 (by decide), loadA_eq ia_90, o_fieldAddr fa_89_1 (by decide), o_indexAddrA ea_87, o_indexAddrA ea_86, loadA_eq ia_85, o_fieldAddr fa_89_0 (by decide), o_indexAddrA ea_83, o_indexAddrA ea_82, loadA_eq ia_35, lenA_sl lk_101, o_indexAddrS es_101, za_35, sz_35, loadA_eq ia_79, sz_3, sz_85, n54_1s, n54_4s, n54_7s, n54_8s, n54_6s, n54_9s, n54_5s, n54_3s, n54_11s, n54_13s, n54_16s, n54_20s, n54_23s, n54_24s, n54_22s, n54_28s, n54_30s, n54_32s, n54_34s, n54_36s, n54_37s, n54_35s, n54_33s, n54_31s, n54_29s, n54_27s, n54_26s, n54_38s, n54_25s, n54_21s, n54_19s, n54_17s, n54_15s, n54_40s, n54_42s, n54_43s, n54_41s, n54_39s, n54_14s, n54_12s, n54_10s, n54_2s, n54_0s, want_some q54_4g3, want_some q54_4g8, want_some q54_34g2, Try.f54, boxOf, linB, elv, e1, -dropTo, drop_cons, drop_self, h2, h3, hb, hb8, hb9, hb10, hb11, lv_t, lv_f, m93p, m93n, m94p, m94n, kp, kn, c1, c2, max_if, eqlI0, eql_lv, lenA_sl lk_101]
    | some q =>
      by_cases hlt : (H : Int) - 1 + max (tT m H) (tT (W - m) H) < least
      · simp only [wv, hlt, or_true, if_true, pre54]
        cases lay <;> simp only [lnOf, bxOf, restOf, Bool.false_eq_true, if_true, if_false] at h3 ⊢ <;> rcases w1 with rfl | rfl <;> rcases w2 with rfl | rfl <;>
        simp (disch := first | omega | decide | assumption | simp [scal]) [runOps_nil, runOps_cons, runOpsF_nil, runOpsF_cons, fstS_some, fstF_some, opStep_eq, want_none, oStep_true, oStep_false, fin_pure, fin_read, fin_alloc, fin_write, storeB, wrN, cellV, addWr, o_move, o_assign, o_pick, o_alloc, o_box, o_load, o_store, o_nilCheck, o_bin, o_un, o_extract, o_callV, o_callB, o_callI, callV_f, callV_y, callV_fc, o_makeFunc, partsA, Instr.fill, builtin_len, builtin_max2, bin_add, bin_sub, bin_mul, bin_quo, bin_rem, bin_lss, bin_leq, bin_gtr, bin_geq, bin_eql, bin_neq, un_neg, un_not, opd, opds, optAll, lk, putO, put, has, rep, nbeq, nblt, constOk, isC, ops, sub, cl, cr, co, bodyOf, thenS_normal, thenS_ret, thenS_exit, thenS_goto, afterN_normal, afterN_ret, afterN_exit, afterN_goto, condS_true, condS_false, blockS_normal, blockS_ret, blockS_exit, blockS_goto, loopS_exit, loopS_ret, plainS_some, drawS_some, fpsOk, disj, unord, mem, range', dropTo, enumT, undef, wrap_i64_id, Value.cells, mkCells, ptrTo, scal, cellsAt, rdN, endS_ret, resultsA, Option.bind_some, tupV, finish, reach, reachN, dep, ptrL_eq, ptrL, renL_eq, renL, ptrV_bool, ptrV_int, ptrV_string, ptrV_nilFunc, ptrV_nilIface, ptrV_nilPtr, ptrV_ptr, ptrV_nilSl, ptrV_sl, ptrV_iface, ptrV_agg, ptrV_tuple, ptrV_func, renV_bool, renV_int, renV_string, renV_nilFunc, renV_nilIface, renV_nilPtr, renV_ptr, renV_nilSl, renV_sl, renV_iface, renV_agg, renV_tuple, renV_func, o_fieldAddr fa_35_2 (by decide), loadA_eq ia_3, o_fieldAddr fa_35_3 (by decide), loadA_eq ia_90, o_fieldAddr fa_89_1 (by decide), o_indexAddrA ea_87, o_indexAddrA ea_86, loadA_eq ia_85, o_fieldAddr fa_89_0 (by decide), o_indexAddrA ea_83, o_indexAddrA ea_82, loadA_eq ia_35, lenA_sl lk_101, o_indexAddrS es_101, za_35, sz_35, loadA_eq ia_79, sz_3, sz_85, n54_1s, n54_4s, n54_7s, n54_8s, n54_6s, n54_9s, n54_5s, n54_3s, n54_11s, n54_13s, n54_16s, n54_20s, n54_23s, n54_24s, n54_22s, n54_28s, n54_30s, n54_32s, n54_34s, n54_36s, n54_37s, n54_35s, n54_33s, n54_31s, n54_29s, n54_27s, n54_26s, n54_38s, n54_25s, n54_21s, n54_19s, n54_17s, n54_15s, n54_40s, n54_42s, n54_43s, n54_41s, n54_39s, n54_14s, n54_12s, n54_10s, n54_2s, n54_0s, want_some q54_4g3, want_some q54_4g8, want_some q54_34g2, Try.f54, boxOf, linB, elv, e1, -dropTo, drop_cons, drop_self, h2, h3, hb, hb8, hb9, hb10, hb11, lv_t, lv_f, m93p, m93n, m94p, m94n, kp, kn, c1, c2, max_if, eqlI0, eql_lv, lenA_sl lk_101, hlt]
      · simp only [wv, hlt, or_false, reduceCtorEq, if_false, pre54]
        cases lay <;> simp only [lnOf, bxOf, restOf, Bool.false_eq_true, if_true, if_false] at h3 ⊢ <;> rcases w1 with rfl | rfl <;> rcases w2 with rfl | rfl <;>
        simp (disch := first | omega | decide | assumption | simp [scal]) [runOps_nil, runOps_cons, runOpsF_nil, runOpsF_cons, fstS_some, fstF_some, opStep_eq, want_none, oStep_true, oStep_false, fin_pure, fin_read, fin_alloc, fin_write, storeB, wrN, cellV, addWr, o_move, o_assign, o_pick, o_alloc, o_box, o_load, o_store, o_nilCheck, o_bin, o_un, o_extract, o_callV, o_callB, o_callI, callV_f, callV_y, callV_fc, o_makeFunc, partsA, Instr.fill, builtin_len, builtin_max2, bin_add, bin_sub, bin_mul, bin_quo, bin_rem, bin_lss, bin_leq, bin_gtr, bin_geq, bin_eql, bin_neq, un_neg, un_not, opd, opds, optAll, lk, putO, put, has, rep, nbeq, nblt, constOk, isC, ops, sub, cl, cr, co, bodyOf, thenS_normal, thenS_ret, thenS_exit, thenS_goto, afterN_normal, afterN_ret, afterN_exit, afterN_goto, condS_true, condS_false, blockS_normal, blockS_ret, blockS_exit, blockS_goto, loopS_exit, loopS_ret, plainS_some, drawS_some, fpsOk, disj, unord, mem, range', dropTo, enumT, undef, wrap_i64_id, Value.cells, mkCells, ptrTo, scal, cellsAt, rdN, endS_ret, resultsA, Option.bind_some, tupV, finish, reach, reachN, dep, ptrL_eq, ptrL, renL_eq, renL, ptrV_bool, ptrV_int, ptrV_string, ptrV_nilFunc, ptrV_nilIface, ptrV_nilPtr, ptrV_ptr, ptrV_nilSl, ptrV_sl, ptrV_iface, ptrV_agg, ptrV_tuple, ptrV_func, renV_bool, renV_int, renV_string, renV_nilFunc, renV_nilIface, renV_nilPtr, renV_ptr, renV_nilSl, renV_sl, renV_iface, renV_agg, renV_tuple, renV_func, o_fieldAddr fa_35_2 (by decide), loadA_eq ia_3, o_fieldAddr fa_35_3 (by decide), loadA_eq ia_90, o_fieldAddr fa_89_1 (by decide), o_indexAddrA ea_87, o_indexAddrA ea_86, loadA_eq ia_85, o_fieldAddr fa_89_0 (by decide), o_indexAddrA ea_83, o_indexAddrA ea_82, loadA_eq ia_35, lenA_sl lk_101, o_indexAddrS es_101, za_35, sz_35, loadA_eq ia_79, sz_3, sz_85, n54_1s, n54_4s, n54_7s, n54_8s, n54_6s, n54_9s, n54_5s, n54_3s, n54_11s, n54_13s, n54_16s, n54_20s, n54_23s, n54_24s, n54_22s, n54_28s, n54_30s, n54_32s, n54_34s, n54_36s, n54_37s, n54_35s, n54_33s, n54_31s, n54_29s, n54_27s, n54_26s, n54_38s, n54_25s, n54_21s, n54_19s, n54_17s, n54_15s, n54_40s, n54_42s, n54_43s, n54_41s, n54_39s, n54_14s, n54_12s, n54_10s, n54_2s, n54_0s, want_some q54_4g3, want_some q54_4g8, want_some q54_34g2, Try.f54, boxOf, linB, elv, e1, -dropTo, drop_cons, drop_self, h2, h3, hb, hb8, hb9, hb10, hb11, lv_t, lv_f, m93p, m93n, m94p, m94n, kp, kn, c1, c2, max_if, eqlI0, eql_lv, lenA_sl lk_101, hlt]
  | false =>
    simp only [Bool.false_eq_true, if_false] at hp
    obtain ⟨m1, m2, m3⟩ := hp
    have t1 := tb W m
    have t2 := tb W (H - m)
    have hP1 := hP W m (by omega) (by omega) (by omega) (by omega) (by omega)
    have hP2 := hP W (H - m) (by omega) (by omega) (by omega) (by omega) (by omega)
    have eW : (H : Int) - m = ((H - m : Nat) : Int) := by omega
    have kp := fun h => k75 m X Y W H h (by unfold small; omega) (by unfold small; omega) (by unfold small; omega)
    rw [eW] at kp
    have kn := fun h => k74 m X Y W H h (by unfold small; omega)
    have c1 := fun rest : List Blk => k54 hP1 hS (x := X) (y := Y) (by omega) (by omega) hX.1 (by omega) hY.1 (by omega) rest
    have c2 := fun rest : List Blk => k54 hP2 (S := add S W m) (hS.add (by omega) (by omega)) (by omega) (by omega) (x := X) (y := Y + m) (by omega) (by omega) (by omega) (by omega) rest
    have w1 := wl_or S W m
    have w2 := wl_or (add S W m) W (H - m)
    simp only [fB, aB] at c1 c2 ⊢
    simp only [one, two, Bool.false_eq_true, if_false]
    generalize wl S W m = u1 at *
    generalize wl (add S W m) W (H - m) = u2 at *
    simp only [updL, cst, ndl, one, two, cut1, cut2, Bool.false_eq_true, if_false, boxOf]
    cases way with
    | none =>
      simp only [wv, true_or, if_true, pre54]
      cases lay <;> simp only [lnOf, bxOf, restOf, Bool.false_eq_true, if_true, if_false] at h3 ⊢ <;> rcases w1 with rfl | rfl <;> rcases w2 with rfl | rfl <;>
      simp (disch := first | omega | decide | assumption | simp [scal]) [runOps_nil, runOps_cons, runOpsF_nil, runOpsF_cons, fstS_some, fstF_some, opStep_eq, want_none, oStep_true, oStep_false, fin_pure, fin_read, fin_alloc, fin_write, storeB, wrN, cellV, addWr, o_move, o_assign, o_pick, o_alloc, o_box, o_load, o_store, o_nilCheck, o_bin, o_un, o_extract, o_callV, o_callB, o_callI, callV_f, callV_y, callV_fc, o_makeFunc, partsA, Instr.fill, builtin_len, builtin_max2, bin_add, bin_sub, bin_mul, bin_quo, bin_rem, bin_lss, bin_leq, bin_gtr, bin_geq, bin_eql, bin_neq, un_neg, un_not, opd, opds, optAll, lk, putO, put, has, rep, nbeq, nblt, constOk, isC, ops, sub, cl, cr, co, bodyOf, thenS_normal, thenS_ret, thenS_exit, thenS_goto, afterN_normal, afterN_ret, afterN_exit, afterN_goto, condS_true, condS_false, blockS_normal, blockS_ret, blockS_exit, blockS_goto, loopS_exit, loopS_ret, plainS_some, drawS_some, fpsOk, disj, unord, mem, range', dropTo, enumT, undef, wrap_i64_id, Value.cells, mkCells, ptrTo, scal, cellsAt, rdN, endS_ret, resultsA, Option.bind_some, tupV, finish, reach, reachN, dep, ptrL_eq, ptrL, renL_eq, renL, ptrV_bool, ptrV_int, ptrV_string, ptrV_nilFunc, ptrV_nilIface, ptrV_nilPtr, ptrV_ptr, ptrV_nilSl, ptrV_sl, ptrV_iface, ptrV_agg, ptrV_tuple, ptrV_func, renV_bool, renV_int, renV_string, renV_nilFunc, renV_nilIface, renV_nilPtr, renV_ptr, renV_nilSl, renV_sl, renV_iface, renV_agg, renV_tuple, renV_func, o_fieldAddr fa_35_2 (by decide), loadA_eq ia_3, o_fieldAddr fa_35_3 (by decide), loadA_eq ia_90, o_fieldAddr fa_89_1 (by decide), o_indexAddrA ea_87, o_indexAddrA ea_86, loadA_eq ia_85, o_fieldAddr fa_89_0 (by decide), o_indexAddrA ea_83, o_indexAddrA ea_82, loadA_eq ia_35, lenA_sl lk_101, o_indexAddrS es_101, za_35, sz_35, loadA_eq ia_79, sz_3, sz_85, n54_1s, n54_4s, n54_7s, n54_8s, n54_6s, n54_9s, n54_5s, n54_3s, n54_11s, n54_13s, n54_16s, n54_20s, n54_23s, n54_24s, n54_22s, n54_28s, n54_30s, n54_32s, n54_34s, n54_36s, n54_37s, n54_35s, n54_33s, n54_31s, n54_29s, n54_27s, n54_26s, n54_38s, n54_25s, n54_21s, n54_19s, n54_17s, n54_15s, n54_40s, n54_42s, n54_43s, n54_41s, n54_39s, n54_14s, n54_12s, n54_10s, n54_2s, n54_0s, want_some q54_4g3, want_some q54_4g8, want_some q54_34g2, Try.f54, boxOf, linB, elv, e1, -dropTo, drop_cons, drop_self, h2, h3, hb, hb8, hb9, hb10, hb11, lv_t, lv_f, m93p, m93n, m94p, m94n, kp, kn, c1, c2, max_if, eqlI0, eql_lv, lenA_sl lk_101]
    | some q =>
      by_cases hlt : (W : Int) - 1 + max (tT W m) (tT W (H - m)) < least
      · simp only [wv, hlt, or_true, if_true, pre54]
        cases lay <;> simp only [lnOf, bxOf, restOf, Bool.false_eq_true, if_true, if_false] at h3 ⊢ <;> rcases w1 with rfl | rfl <;> rcases w2 with rfl | rfl <;>
        simp (disch := first | omega | decide | assumption | simp [scal]) [runOps_nil, runOps_cons, runOpsF_nil, runOpsF_cons, fstS_some, fstF_some, opStep_eq, want_none, oStep_true, oStep_false, fin_pure, fin_read, fin_alloc, fin_write, storeB, wrN, cellV, addWr, o_move, o_assign, o_pick, o_alloc, o_box, o_load, o_store, o_nilCheck, o_bin, o_un, o_extract, o_callV, o_callB, o_callI, callV_f, callV_y, callV_fc, o_makeFunc, partsA, Instr.fill, builtin_len, builtin_max2, bin_add, bin_sub, bin_mul, bin_quo, bin_rem, bin_lss, bin_leq, bin_gtr, bin_geq, bin_eql, bin_neq, un_neg, un_not, opd, opds, optAll, lk, putO, put, has, rep, nbeq, nblt, constOk, isC, ops, sub, cl, cr, co, bodyOf, thenS_normal, thenS_ret, thenS_exit, thenS_goto, afterN_normal, afterN_ret, afterN_exit, afterN_goto, condS_true, condS_false, blockS_normal, blockS_ret, blockS_exit, blockS_goto, loopS_exit, loopS_ret, plainS_some, drawS_some, fpsOk, disj, unord, mem, range', dropTo, enumT, undef, wrap_i64_id, Value.cells, mkCells, ptrTo, scal, cellsAt, rdN, endS_ret, resultsA, Option.bind_some, tupV, finish, reach, reachN, dep, ptrL_eq, ptrL, renL_eq, renL, ptrV_bool, ptrV_int, ptrV_string, ptrV_nilFunc, ptrV_nilIface, ptrV_nilPtr, ptrV_ptr, ptrV_nilSl, ptrV_sl, ptrV_iface, ptrV_agg, ptrV_tuple, ptrV_func, renV_bool, renV_int, renV_string, renV_nilFunc, renV_nilIface, renV_nilPtr, renV_ptr, renV_nilSl, renV_sl, renV_iface, renV_agg, renV_tuple, renV_func, o_fieldAddr fa_35_2 (by decide), loadA_eq ia_3, o_fieldAddr fa_35_3 (by decide), loadA_eq ia_90, o_fieldAddr fa_89_1 (by decide), o_indexAddrA ea_87, o_indexAddrA ea_86, loadA_eq ia_85, o_fieldAddr fa_89_0 (by decide), o_indexAddrA ea_83, o_indexAddrA ea_82, loadA_eq ia_35, lenA_sl lk_101, o_indexAddrS es_101, za_35, sz_35, loadA_eq ia_79, sz_3, sz_85, n54_1s, n54_4s, n54_7s, n54_8s, n54_6s, n54_9s, n54_5s, n54_3s, n54_11s, n54_13s, n54_16s, n54_20s, n54_23s, n54_24s, n54_22s, n54_28s, n54_30s, n54_32s, n54_34s, n54_36s, n54_37s, n54_35s, n54_33s, n54_31s, n54_29s, n54_27s, n54_26s, n54_38s, n54_25s, n54_21s, n54_19s, n54_17s, n54_15s, n54_40s, n54_42s, n54_43s, n54_41s, n54_39s, n54_14s, n54_12s, n54_10s, n54_2s, n54_0s, want_some q54_4g3, want_some q54_4g8, want_some q54_34g2, Try.f54, boxOf, linB, elv, e1, -dropTo, drop_cons, drop_self, h2, h3, hb, hb8, hb9, hb10, hb11, lv_t, lv_f, m93p, m93n, m94p, m94n, kp, kn, c1, c2, max_if, eqlI0, eql_lv, lenA_sl lk_101, hlt]
      · simp only [wv, hlt, or_false, reduceCtorEq, if_false, pre54]
        cases lay <;> simp only [lnOf, bxOf, restOf, Bool.false_eq_true, if_true, if_false] at h3 ⊢ <;> rcases w1 with rfl | rfl <;> rcases w2 with rfl | rfl <;>
        simp (disch := first | omega | decide | assumption | simp [scal]) [runOps_nil, runOps_cons, runOpsF_nil, runOpsF_cons, fstS_some, fstF_some, opStep_eq, want_none, oStep_true, oStep_false, fin_pure, fin_read, fin_alloc, fin_write, storeB, wrN, cellV, addWr, o_move, o_assign, o_pick, o_alloc, o_box, o_load, o_store, o_nilCheck, o_bin, o_un, o_extract, o_callV, o_callB, o_callI, callV_f, callV_y, callV_fc, o_makeFunc, partsA, Instr.fill, builtin_len, builtin_max2, bin_add, bin_sub, bin_mul, bin_quo, bin_rem, bin_lss, bin_leq, bin_gtr, bin_geq, bin_eql, bin_neq, un_neg, un_not, opd, opds, optAll, lk, putO, put, has, rep, nbeq, nblt, constOk, isC, ops, sub, cl, cr, co, bodyOf, thenS_normal, thenS_ret, thenS_exit, thenS_goto, afterN_normal, afterN_ret, afterN_exit, afterN_goto, condS_true, condS_false, blockS_normal, blockS_ret, blockS_exit, blockS_goto, loopS_exit, loopS_ret, plainS_some, drawS_some, fpsOk, disj, unord, mem, range', dropTo, enumT, undef, wrap_i64_id, Value.cells, mkCells, ptrTo, scal, cellsAt, rdN, endS_ret, resultsA, Option.bind_some, tupV, finish, reach, reachN, dep, ptrL_eq, ptrL, renL_eq, renL, ptrV_bool, ptrV_int, ptrV_string, ptrV_nilFunc, ptrV_nilIface, ptrV_nilPtr, ptrV_ptr, ptrV_nilSl, ptrV_sl, ptrV_iface, ptrV_agg, ptrV_tuple, ptrV_func, renV_bool, renV_int, renV_string, renV_nilFunc, renV_nilIface, renV_nilPtr, renV_ptr, renV_nilSl, renV_sl, renV_iface, renV_agg, renV_tuple, renV_func, o_fieldAddr fa_35_2 (by decide), loadA_eq ia_3, o_fieldAddr fa_35_3 (by decide), loadA_eq ia_90, o_fieldAddr fa_89_1 (by decide), o_indexAddrA ea_87, o_indexAddrA ea_86, loadA_eq ia_85, o_fieldAddr fa_89_0 (by decide), o_indexAddrA ea_83, o_indexAddrA ea_82, loadA_eq ia_35, lenA_sl lk_101, o_indexAddrS es_101, za_35, sz_35, loadA_eq ia_79, sz_3, sz_85, n54_1s, n54_4s, n54_7s, n54_8s, n54_6s, n54_9s, n54_5s, n54_3s, n54_11s, n54_13s, n54_16s, n54_20s, n54_23s, n54_24s, n54_22s, n54_28s, n54_30s, n54_32s, n54_34s, n54_36s, n54_37s, n54_35s, n54_33s, n54_31s, n54_29s, n54_27s, n54_26s, n54_38s, n54_25s, n54_21s, n54_19s, n54_17s, n54_15s, n54_40s, n54_42s, n54_43s, n54_41s, n54_39s, n54_14s, n54_12s, n54_10s, n54_2s, n54_0s, want_some q54_4g3, want_some q54_4g8, want_some q54_34g2, Try.f54, boxOf, linB, elv, e1, -dropTo, drop_cons, drop_self, h2, h3, hb, hb8, hb9, hb10, hb11, lv_t, lv_f, m93p, m93n, m94p, m94n, kp, kn, c1, c2, max_if, eqlI0, eql_lv, lenA_sl lk_101, hlt]
end
end Go.Proofs.Ytgpcjdhlijompaa.ore

