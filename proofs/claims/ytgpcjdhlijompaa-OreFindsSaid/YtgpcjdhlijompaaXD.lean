/-
  Contracts of functions of the program at the limit evaluator, continued. No condition.
-/
import Derived.Test.YtgpcjdhlijompaaXC
namespace Go.Proofs.Ytgpcjdhlijompaa.ore
open Go.GE
set_option linter.unusedVariables false
set_option linter.unusedSimpArgs false
set_option maxRecDepth 100000
def sum2 (a b : Nat → Int) (s : Int) : Nat → Int
  | 0 => s
  | r + 1 => sum2 a b s r + a r + b r
def bA (g : Nat → Nat → Int) (X Y r : Nat) : Int := turnS (g (X + r) Y) (g (X + r + 1) Y)
def bB (g : Nat → Nat → Int) (X Y r : Nat) : Int := turnS (g (X + r + 1) Y) (g (X + r) Y)
def lA (g : Nat → Nat → Int) (X Y r : Nat) : Int := turnS (g X (Y + r)) (g X (Y + r + 1))
def lB (g : Nat → Nat → Int) (X Y r : Nat) : Int := turnS (g X (Y + r + 1)) (g X (Y + r))
/-- the turns along a block's border, side by side -/
def ringR (g : Nat → Nat → Int) (X Y W H : Nat) : Int := sum2 (lA g (X + W) Y) (lB g X Y) (sum2 (bA g X Y) (bB g X (Y + H)) 0 W) H
theorem sum2_ok {a b : Nat → Int} {s B : Int} (ha : ∀ r, -1800 ≤ a r ∧ a r ≤ 1800) (hb : ∀ r, -1800 ≤ b r ∧ b r ≤ 1800) (hs : -B ≤ s ∧ s ≤ B) : ∀ r : Nat, -(B + 3600 * r) ≤ sum2 a b s r ∧ sum2 a b s r ≤ B + 3600 * r := by
  intro r
  induction r with
  | zero => simp only [sum2, Int.natCast_zero]; omega
  | succ r ih => simp only [sum2]; have := ha r; have := hb r; omega
theorem turn_b (a b : Int) : -1800 ≤ turnS a b ∧ turnS a b ≤ 1800 := by have := turnS_small a b; omega
section
variable {Wf HH : Nat} {o : Int} {off n : Nat} (c : Nat) {cs : List Value} (own : Bool) {nd : Nat → Int} {X Y W H : Nat}
def S46 (w hh o : Int) (off n c : Nat) (X Y W H x s : Int) : Tm := [(6, iv x), (9, iv X), (8, .pointer (some ⟨2, 0, none⟩)), (5, iv s), (4, iv 0), (3, .pointer (some ⟨2, 0, none⟩)), (2, .pointer (some ⟨1, 0, none⟩)), (0, fv w hh o 0 off n c), (1, bv X Y W H)]
def T46 (w hh o : Int) (off n c : Nat) (X Y W H y s : Int) : Tm := (7, iv y) :: (54, iv Y) :: (53, .pointer (some ⟨2, 1, none⟩)) :: S46 w hh o off n c X Y W H (X + W) s
def H46 (w hh o : Int) (off n c : Nat) (X Y W H : Int) (cs : List Value) (own : Bool) : List Blk := [.cells cs 1 true own, fb w hh o 0 off n c, bb X Y W H]
theorem l46a (F : Fld Wf HH o off n cs nd) (hW : 1 ≤ W) (hH : 1 ≤ H) (hX : X + W + 1 ≤ Wf) (hY : Y + H + 1 ≤ HH) : ∀ k r : Nat, r + k = W →
    codeB Try.prog LL ⟨46, 100, 1, none⟩ n46_8 ⟨S46 Wf HH o off n c X Y W H (X + r) (sum2 (bA (gr Wf nd) X Y) (bB (gr Wf nd) X (Y + H)) 0 r), H46 Wf HH o off n c X Y W H cs own, []⟩ =
      some (.exit 0, ⟨(16, .bool false) :: (15, iv (X + W)) :: (14, iv W) :: (13, .pointer (some ⟨2, 2, none⟩)) :: (12, iv X) :: (11, .pointer (some ⟨2, 0, none⟩)) :: (10, iv (X + W)) :: S46 Wf HH o off n c X Y W H (X + W) (sum2 (bA (gr Wf nd) X Y) (bB (gr Wf nd) X (Y + H)) 0 W), H46 Wf HH o off n c X Y W H cs own, []⟩) := by
  have hw := F.hw; have hh := F.hh
  intro k
  induction k with
  | zero =>
    intro r hr
    obtain rfl : r = W := by omega
    rw [n46_8s]
    simp only [S46, H46]
    simp (disch := first | omega | decide | assumption | simp [scal]) [runOps_nil, runOps_cons, runOpsF_nil, runOpsF_cons, fstS_some, fstF_some, opStep_eq, want_none, oStep_true, oStep_false, fin_pure, fin_read, fin_alloc, fin_write, storeB, wrN, cellV, addWr, o_move, o_assign, o_pick, o_alloc, o_box, o_load, o_store, o_nilCheck, o_bin, o_un, o_extract, o_callV, o_callB, o_callI, callV_f, callV_y, callV_fc, o_makeFunc, partsA, Instr.fill, builtin_len, builtin_max2, bin_add, bin_sub, bin_mul, bin_quo, bin_rem, bin_lss, bin_leq, bin_gtr, bin_geq, bin_eql, bin_neq, un_neg, un_not, opd, opds, optAll, lk, putO, put, has, rep, nbeq, nblt, constOk, isC, ops, sub, cl, cr, co, bodyOf, thenS_normal, thenS_ret, thenS_exit, thenS_goto, afterN_normal, afterN_ret, afterN_exit, afterN_goto, condS_true, condS_false, blockS_normal, blockS_ret, blockS_exit, blockS_goto, loopS_exit, loopS_ret, plainS_some, drawS_some, fpsOk, disj, unord, mem, range', dropTo, enumT, undef, wrap_i64_id, Value.cells, mkCells, ptrTo, scal, cellsAt, rdN, endS_ret, resultsA, Option.bind_some, tupV, finish, reach, reachN, dep, ptrL_eq, ptrL, renL_eq, renL, ptrV_bool, ptrV_int, ptrV_string, ptrV_nilFunc, ptrV_nilIface, ptrV_nilPtr, ptrV_ptr, ptrV_nilSl, ptrV_sl, ptrV_iface, ptrV_agg, ptrV_tuple, ptrV_func, renV_bool, renV_int, renV_string, renV_nilFunc, renV_nilIface, renV_nilPtr, renV_ptr, renV_nilSl, renV_sl, renV_iface, renV_agg, renV_tuple, renV_func, o_fieldAddr fa_38_0 (by decide), loadA_eq ia_3, o_fieldAddr fa_38_2 (by decide), loadA_eq ia_31, o_fieldAddr fa_38_1 (by decide), o_fieldAddr fa_38_3 (by decide), n46_1s, n46_3s, n46_6s, n46_11s, n46_13s, n46_14s, n46_12s, n46_10s, n46_18s, n46_19s, n46_17s, n46_16s, n46_20s, n46_15s, n46_9s, n46_7s, n46_5s, n46_23s, n46_28s, n46_30s, n46_31s, n46_29s, n46_27s, n46_35s, n46_36s, n46_34s, n46_33s, n46_37s, n46_32s, n46_26s, n46_24s, n46_22s, n46_39s, n46_40s, n46_38s, n46_21s, n46_4s, n46_2s, n46_0s, Try.f46]
  | succ k ih =>
    intro r hr
    have this := L_code (ih (r + 1) (by omega))
    have e1 : (X : Int) + r < X + W := by omega
    have hso : small o := by have := F.ho; unfold small; omega
    obtain ⟨x1, y1, i1, j1, u1, v1, w1⟩ := F.pt (X + r) Y (v := gr Wf nd (X + r) Y) (by omega) (by omega) rfl
    obtain ⟨x2, y2, i2, j2, u2, v2, w2⟩ := F.pt (X + r + 1) Y (v := gr Wf nd (X + r + 1) Y) (by omega) (by omega) rfl
    obtain ⟨x3, y3, i3, j3, u3, v3, w3⟩ := F.pt (X + r + 1) (Y + H) (v := gr Wf nd (X + r + 1) (Y + H)) (by omega) (by omega) rfl
    obtain ⟨x4, y4, i4, j4, u4, v4, w4⟩ := F.pt (X + r) (Y + H) (v := gr Wf nd (X + r) (Y + H)) (by omega) (by omega) rfl
    have a1 := fun rest : List Blk => k52 Wf HH o 0 off n c _ _ j1 (h := .cells cs 1 true own :: rest) rfl x1 y1 (by omega) (by omega) u1 v1 w1
    have a2 := fun rest : List Blk => k52 Wf HH o 0 off n c _ _ j2 (h := .cells cs 1 true own :: rest) rfl x2 y2 (by omega) (by omega) u2 v2 w2
    have a3 := fun rest : List Blk => k52 Wf HH o 0 off n c _ _ j3 (h := .cells cs 1 true own :: rest) rfl x3 y3 (by omega) (by omega) u3 v3 w3
    have a4 := fun rest : List Blk => k52 Wf HH o 0 off n c _ _ j4 (h := .cells cs 1 true own :: rest) rfl x4 y4 (by omega) (by omega) u4 v4 w4
    have b1 := k39 _ _ i1 i2
    have b2 := k39 _ _ i3 i4
    have t1 := turn_b (gr Wf nd (X + r) Y) (gr Wf nd (X + r + 1) Y)
    have t2 := turn_b (gr Wf nd (X + r + 1) (Y + H)) (gr Wf nd (X + r) (Y + H))
    have hs := sum2_ok (a := bA (gr Wf nd) X Y) (b := bB (gr Wf nd) X (Y + H)) (s := 0) (B := 0) (fun r => turn_b _ _) (fun r => turn_b _ _) (by omega) r
    have e2 : (X : Int) + ((r : Int) + 1) = X + r + 1 := by omega
    rw [n46_8s]
    simp only [S46, H46, cast1, sum2, e2] at this ⊢
    simp only [bA, bB] at this hs ⊢
    generalize sum2 (fun r => turnS (gr Wf nd (X + r) Y) (gr Wf nd (X + r + 1) Y)) (fun r => turnS (gr Wf nd (X + r + 1) (Y + H)) (gr Wf nd (X + r) (Y + H))) 0 r = s at *
    simp (disch := first | omega | decide | assumption | simp [scal]) [runOps_nil, runOps_cons, runOpsF_nil, runOpsF_cons, fstS_some, fstF_some, opStep_eq, want_none, oStep_true, oStep_false, fin_pure, fin_read, fin_alloc, fin_write, storeB, wrN, cellV, addWr, o_move, o_assign, o_pick, o_alloc, o_box, o_load, o_store, o_nilCheck, o_bin, o_un, o_extract, o_callV, o_callB, o_callI, callV_f, callV_y, callV_fc, o_makeFunc, partsA, Instr.fill, builtin_len, builtin_max2, bin_add, bin_sub, bin_mul, bin_quo, bin_rem, bin_lss, bin_leq, bin_gtr, bin_geq, bin_eql, bin_neq, un_neg, un_not, opd, opds, optAll, lk, putO, put, has, rep, nbeq, nblt, constOk, isC, ops, sub, cl, cr, co, bodyOf, thenS_normal, thenS_ret, thenS_exit, thenS_goto, afterN_normal, afterN_ret, afterN_exit, afterN_goto, condS_true, condS_false, blockS_normal, blockS_ret, blockS_exit, blockS_goto, loopS_exit, loopS_ret, plainS_some, drawS_some, fpsOk, disj, unord, mem, range', dropTo, enumT, undef, wrap_i64_id, Value.cells, mkCells, ptrTo, scal, cellsAt, rdN, endS_ret, resultsA, Option.bind_some, tupV, finish, reach, reachN, dep, ptrL_eq, ptrL, renL_eq, renL, ptrV_bool, ptrV_int, ptrV_string, ptrV_nilFunc, ptrV_nilIface, ptrV_nilPtr, ptrV_ptr, ptrV_nilSl, ptrV_sl, ptrV_iface, ptrV_agg, ptrV_tuple, ptrV_func, renV_bool, renV_int, renV_string, renV_nilFunc, renV_nilIface, renV_nilPtr, renV_ptr, renV_nilSl, renV_sl, renV_iface, renV_agg, renV_tuple, renV_func, o_fieldAddr fa_38_0 (by decide), loadA_eq ia_3, o_fieldAddr fa_38_2 (by decide), loadA_eq ia_31, o_fieldAddr fa_38_1 (by decide), o_fieldAddr fa_38_3 (by decide), n46_1s, n46_3s, n46_6s, n46_11s, n46_13s, n46_14s, n46_12s, n46_10s, n46_18s, n46_19s, n46_17s, n46_16s, n46_20s, n46_15s, n46_9s, n46_7s, n46_5s, n46_23s, n46_28s, n46_30s, n46_31s, n46_29s, n46_27s, n46_35s, n46_36s, n46_34s, n46_33s, n46_37s, n46_32s, n46_26s, n46_24s, n46_22s, n46_39s, n46_40s, n46_38s, n46_21s, n46_4s, n46_2s, n46_0s, Try.f46, a1, a2, a3, a4, b1, b2, e1, loopS_same, this]
    done
theorem l46b (F : Fld Wf HH o off n cs nd) (s0 : Int) (hs0 : -500000 ≤ s0 ∧ s0 ≤ 500000) (hW : 1 ≤ W) (hH : 1 ≤ H) (hX : X + W + 1 ≤ Wf) (hY : Y + H + 1 ≤ HH) : ∀ k r : Nat, r + k = H →
    codeB Try.prog LL ⟨46, 100, 1, none⟩ n46_25 ⟨T46 Wf HH o off n c X Y W H (Y + r) (sum2 (lA (gr Wf nd) (X + W) Y) (lB (gr Wf nd) X Y) s0 r), H46 Wf HH o off n c X Y W H cs own, []⟩ =
      some (.exit 2, ⟨(61, .bool false) :: (60, iv (Y + H)) :: (59, iv H) :: (58, .pointer (some ⟨2, 3, none⟩)) :: (57, iv Y) :: (56, .pointer (some ⟨2, 1, none⟩)) :: (55, iv (Y + H)) :: T46 Wf HH o off n c X Y W H (Y + H) (sum2 (lA (gr Wf nd) (X + W) Y) (lB (gr Wf nd) X Y) s0 H), H46 Wf HH o off n c X Y W H cs own, []⟩) := by
  have hw := F.hw; have hh := F.hh
  intro k
  induction k with
  | zero =>
    intro r hr
    obtain rfl : r = H := by omega
    rw [n46_25s]
    simp only [T46, S46, H46]
    simp (disch := first | omega | decide | assumption | simp [scal]) [runOps_nil, runOps_cons, runOpsF_nil, runOpsF_cons, fstS_some, fstF_some, opStep_eq, want_none, oStep_true, oStep_false, fin_pure, fin_read, fin_alloc, fin_write, storeB, wrN, cellV, addWr, o_move, o_assign, o_pick, o_alloc, o_box, o_load, o_store, o_nilCheck, o_bin, o_un, o_extract, o_callV, o_callB, o_callI, callV_f, callV_y, callV_fc, o_makeFunc, partsA, Instr.fill, builtin_len, builtin_max2, bin_add, bin_sub, bin_mul, bin_quo, bin_rem, bin_lss, bin_leq, bin_gtr, bin_geq, bin_eql, bin_neq, un_neg, un_not, opd, opds, optAll, lk, putO, put, has, rep, nbeq, nblt, constOk, isC, ops, sub, cl, cr, co, bodyOf, thenS_normal, thenS_ret, thenS_exit, thenS_goto, afterN_normal, afterN_ret, afterN_exit, afterN_goto, condS_true, condS_false, blockS_normal, blockS_ret, blockS_exit, blockS_goto, loopS_exit, loopS_ret, plainS_some, drawS_some, fpsOk, disj, unord, mem, range', dropTo, enumT, undef, wrap_i64_id, Value.cells, mkCells, ptrTo, scal, cellsAt, rdN, endS_ret, resultsA, Option.bind_some, tupV, finish, reach, reachN, dep, ptrL_eq, ptrL, renL_eq, renL, ptrV_bool, ptrV_int, ptrV_string, ptrV_nilFunc, ptrV_nilIface, ptrV_nilPtr, ptrV_ptr, ptrV_nilSl, ptrV_sl, ptrV_iface, ptrV_agg, ptrV_tuple, ptrV_func, renV_bool, renV_int, renV_string, renV_nilFunc, renV_nilIface, renV_nilPtr, renV_ptr, renV_nilSl, renV_sl, renV_iface, renV_agg, renV_tuple, renV_func, o_fieldAddr fa_38_0 (by decide), loadA_eq ia_3, o_fieldAddr fa_38_2 (by decide), loadA_eq ia_31, o_fieldAddr fa_38_1 (by decide), o_fieldAddr fa_38_3 (by decide), n46_1s, n46_3s, n46_6s, n46_11s, n46_13s, n46_14s, n46_12s, n46_10s, n46_18s, n46_19s, n46_17s, n46_16s, n46_20s, n46_15s, n46_9s, n46_7s, n46_5s, n46_23s, n46_28s, n46_30s, n46_31s, n46_29s, n46_27s, n46_35s, n46_36s, n46_34s, n46_33s, n46_37s, n46_32s, n46_26s, n46_24s, n46_22s, n46_39s, n46_40s, n46_38s, n46_21s, n46_4s, n46_2s, n46_0s, Try.f46]
  | succ k ih =>
    intro r hr
    have this := L_code (ih (r + 1) (by omega))
    have e1 : (Y : Int) + r < Y + H := by omega
    have hso : small o := by have := F.ho; unfold small; omega
    obtain ⟨x1, y1, i1, j1, u1, v1, w1⟩ := F.pt (X + W) (Y + r) (v := gr Wf nd (X + W) (Y + r)) (by omega) (by omega) rfl
    obtain ⟨x2, y2, i2, j2, u2, v2, w2⟩ := F.pt (X + W) (Y + r + 1) (v := gr Wf nd (X + W) (Y + r + 1)) (by omega) (by omega) rfl
    obtain ⟨x3, y3, i3, j3, u3, v3, w3⟩ := F.pt (X) (Y + r + 1) (v := gr Wf nd X (Y + r + 1)) (by omega) (by omega) rfl
    obtain ⟨x4, y4, i4, j4, u4, v4, w4⟩ := F.pt (X) (Y + r) (v := gr Wf nd X (Y + r)) (by omega) (by omega) rfl
    have a1 := fun rest : List Blk => k52 Wf HH o 0 off n c _ _ j1 (h := .cells cs 1 true own :: rest) rfl x1 y1 (by omega) (by omega) u1 v1 w1
    have a2 := fun rest : List Blk => k52 Wf HH o 0 off n c _ _ j2 (h := .cells cs 1 true own :: rest) rfl x2 y2 (by omega) (by omega) u2 v2 w2
    have a3 := fun rest : List Blk => k52 Wf HH o 0 off n c _ _ j3 (h := .cells cs 1 true own :: rest) rfl x3 y3 (by omega) (by omega) u3 v3 w3
    have a4 := fun rest : List Blk => k52 Wf HH o 0 off n c _ _ j4 (h := .cells cs 1 true own :: rest) rfl x4 y4 (by omega) (by omega) u4 v4 w4
    have b1 := k39 _ _ i1 i2
    have b2 := k39 _ _ i3 i4
    have t1 := turn_b (gr Wf nd (X + W) (Y + r)) (gr Wf nd (X + W) (Y + r + 1))
    have t2 := turn_b (gr Wf nd X (Y + r + 1)) (gr Wf nd X (Y + r))
    have hs := sum2_ok (a := lA (gr Wf nd) (X + W) Y) (b := lB (gr Wf nd) X Y) (s := s0) (B := 500000) (fun r => turn_b _ _) (fun r => turn_b _ _) hs0 r
    have e2 : (Y : Int) + ((r : Int) + 1) = Y + r + 1 := by omega
    rw [n46_25s]
    simp only [T46, S46, H46, cast1, sum2, e2] at this ⊢
    simp only [lA, lB] at this hs ⊢
    generalize sum2 (fun r => turnS (gr Wf nd (X + W) (Y + r)) (gr Wf nd (X + W) (Y + r + 1))) (fun r => turnS (gr Wf nd X (Y + r + 1)) (gr Wf nd X (Y + r))) s0 r = s at *
    simp (disch := first | omega | decide | assumption | simp [scal]) [runOps_nil, runOps_cons, runOpsF_nil, runOpsF_cons, fstS_some, fstF_some, opStep_eq, want_none, oStep_true, oStep_false, fin_pure, fin_read, fin_alloc, fin_write, storeB, wrN, cellV, addWr, o_move, o_assign, o_pick, o_alloc, o_box, o_load, o_store, o_nilCheck, o_bin, o_un, o_extract, o_callV, o_callB, o_callI, callV_f, callV_y, callV_fc, o_makeFunc, partsA, Instr.fill, builtin_len, builtin_max2, bin_add, bin_sub, bin_mul, bin_quo, bin_rem, bin_lss, bin_leq, bin_gtr, bin_geq, bin_eql, bin_neq, un_neg, un_not, opd, opds, optAll, lk, putO, put, has, rep, nbeq, nblt, constOk, isC, ops, sub, cl, cr, co, bodyOf, thenS_normal, thenS_ret, thenS_exit, thenS_goto, afterN_normal, afterN_ret, afterN_exit, afterN_goto, condS_true, condS_false, blockS_normal, blockS_ret, blockS_exit, blockS_goto, loopS_exit, loopS_ret, plainS_some, drawS_some, fpsOk, disj, unord, mem, range', dropTo, enumT, undef, wrap_i64_id, Value.cells, mkCells, ptrTo, scal, cellsAt, rdN, endS_ret, resultsA, Option.bind_some, tupV, finish, reach, reachN, dep, ptrL_eq, ptrL, renL_eq, renL, ptrV_bool, ptrV_int, ptrV_string, ptrV_nilFunc, ptrV_nilIface, ptrV_nilPtr, ptrV_ptr, ptrV_nilSl, ptrV_sl, ptrV_iface, ptrV_agg, ptrV_tuple, ptrV_func, renV_bool, renV_int, renV_string, renV_nilFunc, renV_nilIface, renV_nilPtr, renV_ptr, renV_nilSl, renV_sl, renV_iface, renV_agg, renV_tuple, renV_func, o_fieldAddr fa_38_0 (by decide), loadA_eq ia_3, o_fieldAddr fa_38_2 (by decide), loadA_eq ia_31, o_fieldAddr fa_38_1 (by decide), o_fieldAddr fa_38_3 (by decide), n46_1s, n46_3s, n46_6s, n46_11s, n46_13s, n46_14s, n46_12s, n46_10s, n46_18s, n46_19s, n46_17s, n46_16s, n46_20s, n46_15s, n46_9s, n46_7s, n46_5s, n46_23s, n46_28s, n46_30s, n46_31s, n46_29s, n46_27s, n46_35s, n46_36s, n46_34s, n46_33s, n46_37s, n46_32s, n46_26s, n46_24s, n46_22s, n46_39s, n46_40s, n46_38s, n46_21s, n46_4s, n46_2s, n46_0s, Try.f46, a1, a2, a3, a4, b1, b2, e1, loopS_same, this]
    done
theorem ringR_ok (hW : W ≤ 9) (hH : H ≤ 9) : -100000 ≤ ringR (gr Wf nd) X Y W H ∧ ringR (gr Wf nd) X Y W H ≤ 100000 := by
  have h1 := sum2_ok (a := bA (gr Wf nd) X Y) (b := bB (gr Wf nd) X (Y + H)) (s := 0) (B := 0) (fun r => turn_b _ _) (fun r => turn_b _ _) (by omega) W
  have h2 := sum2_ok (a := lA (gr Wf nd) (X + W) Y) (b := lB (gr Wf nd) X Y) (s := sum2 (bA (gr Wf nd) X Y) (bB (gr Wf nd) X (Y + H)) 0 W) (B := 32400) (fun r => turn_b _ _) (fun r => turn_b _ _) (by omega) H
  unfold ringR
  omega
theorem c46 (F : Fld Wf HH o off n cs nd) (hW : 1 ≤ W) (hH : 1 ≤ H) (hX : X + W + 1 ≤ Wf) (hY : Y + H + 1 ≤ HH) :
    LL.run 46 [fv Wf HH o 0 off n c, bv X Y W H] [.cells cs 1 true own] = some ⟨iv ((ringR (gr Wf nd) X Y W H).tdiv 3600), [], []⟩ := by
  have hw := F.hw; have hh := F.hh
  refine go (by decide) ?_
  rw [run46 _ _ _ (by simp)]
  have h1 := sum2_ok (a := bA (gr Wf nd) X Y) (b := bB (gr Wf nd) X (Y + H)) (s := 0) (B := 0) (fun r => turn_b _ _) (fun r => turn_b _ _) (by omega) W
  have la := l46a c own F hW hH hX hY W 0 (by omega)
  have lb := l46b c own F (sum2 (bA (gr Wf nd) X Y) (bB (gr Wf nd) X (Y + H)) 0 W) (by omega) hW hH hX hY H 0 (by omega)
  have hq := wrap_div (R := ringR (gr Wf nd) X Y W H) (by have := ringR_ok (Wf := Wf) (nd := nd) (X := X) (Y := Y) (W := W) (H := H) (by omega) (by omega); omega)
  have e0 : (X : Int) + ((0 : Nat) : Int) = X := by omega
  have e1 : (Y : Int) + ((0 : Nat) : Int) = Y := by omega
  simp only [e0, e1, T46, S46, H46, sum2] at la lb
  have er : sum2 (lA (gr Wf nd) (X + W) Y) (lB (gr Wf nd) X Y) (sum2 (bA (gr Wf nd) X Y) (bB (gr Wf nd) X (Y + H)) 0 W) H = ringR (gr Wf nd) X Y W H := rfl
  rw [er] at lb
  simp (disch := first | omega | decide | assumption | simp [scal]) [runOps_nil, runOps_cons, runOpsF_nil, runOpsF_cons, fstS_some, fstF_some, opStep_eq, want_none, oStep_true, oStep_false, fin_pure, fin_read, fin_alloc, fin_write, storeB, wrN, cellV, addWr, o_move, o_assign, o_pick, o_alloc, o_box, o_load, o_store, o_nilCheck, o_bin, o_un, o_extract, o_callV, o_callB, o_callI, callV_f, callV_y, callV_fc, o_makeFunc, partsA, Instr.fill, builtin_len, builtin_max2, bin_add, bin_sub, bin_mul, bin_quo, bin_rem, bin_lss, bin_leq, bin_gtr, bin_geq, bin_eql, bin_neq, un_neg, un_not, opd, opds, optAll, lk, putO, put, has, rep, nbeq, nblt, constOk, isC, ops, sub, cl, cr, co, bodyOf, thenS_normal, thenS_ret, thenS_exit, thenS_goto, afterN_normal, afterN_ret, afterN_exit, afterN_goto, condS_true, condS_false, blockS_normal, blockS_ret, blockS_exit, blockS_goto, loopS_exit, loopS_ret, plainS_some, drawS_some, fpsOk, disj, unord, mem, range', dropTo, enumT, undef, wrap_i64_id, Value.cells, mkCells, ptrTo, scal, cellsAt, rdN, endS_ret, resultsA, Option.bind_some, tupV, finish, reach, reachN, dep, ptrL_eq, ptrL, renL_eq, renL, ptrV_bool, ptrV_int, ptrV_string, ptrV_nilFunc, ptrV_nilIface, ptrV_nilPtr, ptrV_ptr, ptrV_nilSl, ptrV_sl, ptrV_iface, ptrV_agg, ptrV_tuple, ptrV_func, renV_bool, renV_int, renV_string, renV_nilFunc, renV_nilIface, renV_nilPtr, renV_ptr, renV_nilSl, renV_sl, renV_iface, renV_agg, renV_tuple, renV_func, o_fieldAddr fa_38_0 (by decide), loadA_eq ia_3, o_fieldAddr fa_38_2 (by decide), loadA_eq ia_31, o_fieldAddr fa_38_1 (by decide), o_fieldAddr fa_38_3 (by decide), n46_1s, n46_3s, n46_6s, n46_11s, n46_13s, n46_14s, n46_12s, n46_10s, n46_18s, n46_19s, n46_17s, n46_16s, n46_20s, n46_15s, n46_9s, n46_7s, n46_5s, n46_23s, n46_28s, n46_30s, n46_31s, n46_29s, n46_27s, n46_35s, n46_36s, n46_34s, n46_33s, n46_37s, n46_32s, n46_26s, n46_24s, n46_22s, n46_39s, n46_40s, n46_38s, n46_21s, n46_4s, n46_2s, n46_0s, Try.f46, la, lb, hq]
end
end Go.Proofs.Ytgpcjdhlijompaa.ore

namespace Go.Proofs.Ytgpcjdhlijompaa.ore
open Go.GE
set_option linter.unusedVariables false
set_option linter.unusedSimpArgs false
def sumN (f : Nat → Int) : Nat → Int
  | 0 => 0
  | r + 1 => sumN f r + f r
theorem sumN_congr {f g : Nat → Int} : ∀ {n : Nat}, (∀ i, i < n → f i = g i) → sumN f n = sumN g n := by
  intro n
  induction n with
  | zero => intro _; rfl
  | succ n ih => intro h; simp only [sumN, ih fun i hi => h i (by omega), h n (by omega)]
theorem sumN_front (f : Nat → Int) (n : Nat) : sumN f (n + 1) = f 0 + sumN (fun i => f (i + 1)) n := by
  induction n with
  | zero => simp [sumN]
  | succ n ih => rw [sumN, ih, sumN]; omega
theorem sumN_rev (f : Nat → Int) (n : Nat) : sumN f n = sumN (fun i => f (n - 1 - i)) n := by
  induction n with
  | zero => rfl
  | succ n ih =>
    rw [sumN_front (fun i => f (n + 1 - 1 - i))]
    simp only [sumN]
    have : sumN (fun i => f (n + 1 - 1 - (i + 1))) n = sumN (fun i => f (n - 1 - i)) n := sumN_congr fun i hi => by congr 1; omega
    rw [this, ← ih]
    simp; omega
theorem sumN_add (f g : Nat → Int) (n : Nat) : sumN (fun i => f i + g i) n = sumN f n + sumN g n := by
  induction n with
  | zero => rfl
  | succ n ih => simp only [sumN, ih]; omega
theorem sumN_neg (f : Nat → Int) (n : Nat) : sumN (fun i => -f i) n = -sumN f n := by
  induction n with
  | zero => rfl
  | succ n ih => simp only [sumN, ih]; omega
theorem sumN_split (f : Nat → Int) (a b : Nat) : sumN f (a + b) = sumN f a + sumN (fun i => f (a + i)) b := by
  induction b with
  | zero => simp [sumN]
  | succ b ih => rw [← Nat.add_assoc, sumN, ih, sumN]; omega
theorem sum2_eq (a b : Nat → Int) (s : Int) (r : Nat) : sum2 a b s r = s + sumN a r + sumN b r := by
  induction r with
  | zero => simp [sum2, sumN]
  | succ r ih => simp only [sum2, sumN, ih]; omega
theorem runF_val {p : Int × Int} {v : Nat → Int} (hp : 0 ≤ p.1) : ∀ r, (∀ i, i < r + 1 → 0 ≤ v i) → runF p v (r + 1) = (v r, p.2 + turnS p.1 (v 0) + sumN (fun i => turnS (v i) (v (i + 1))) r) := by
  intro r
  induction r with
  | zero =>
    intro _
    have : ¬ p.1 < 0 := by omega
    simp [runF, stp, sumN, this]
  | succ r ih =>
    intro hv
    rw [runF, ih fun i hi => hv i (by omega)]
    have : ¬ v r < 0 := by have := hv r (by omega); omega
    simp only [stp, this, if_false, sumN]
    congr 1
    omega
theorem runF_val0 {v : Nat → Int} : ∀ r, (∀ i, i < r + 1 → 0 ≤ v i) → runF (-1, 0) v (r + 1) = (v r, sumN (fun i => turnS (v i) (v (i + 1))) r) := by
  intro r
  induction r with
  | zero => intro _; simp [runF, stp, sumN]
  | succ r ih =>
    intro hv
    rw [runF, ih fun i hi => hv i (by omega)]
    have : ¬ v r < 0 := by have := hv r (by omega); omega
    simp only [stp, this, if_false, sumN]
/-- the border's walk and the sides' sums are the same -/
theorem ring_eq {g : Nat → Nat → Int} {X Y W H : Nat} (hW : 1 ≤ W) (hH : 1 ≤ H) (hg : ∀ x y, x ≤ X + W → y ≤ Y + H → 0 ≤ g x y) : (ringP g X Y W H).2 = ringR g X Y W H := by
  obtain ⟨w, rfl⟩ : ∃ k, W = k + 1 := ⟨W - 1, by omega⟩
  obtain ⟨h, rfl⟩ : ∃ k, H = k + 1 := ⟨H - 1, by omega⟩
  have hg0 := hg X Y (by omega) (by omega)
  unfold ringP
  rw [runF_val0 w fun i hi => hg _ _ (by omega) (by omega)]
  rw [runF_val (hg _ _ (by omega) (by omega)) h fun i hi => hg _ _ (by omega) (by omega)]
  rw [runF_val (hg _ _ (by omega) (by omega)) w fun i hi => hg _ _ (by omega) (by omega)]
  rw [runF_val (hg _ _ (by omega) (by omega)) h fun i hi => hg _ _ (by omega) (by omega)]
  have hlast : ¬ g X (Y + (h + 1) - h) < 0 := by have := hg X (Y + (h + 1) - h) (by omega) (by omega); omega
  simp only [stp, hlast, if_false]
  have s1 : sumN (fun i => turnS (g (X + i) Y) (g (X + (i + 1)) Y)) w + turnS (g (X + w) Y) (g (X + (w + 1)) (Y + 0)) = sumN (bA g X Y) (w + 1) := rfl
  have s2 : sumN (fun i => turnS (g (X + (w + 1)) (Y + i)) (g (X + (w + 1)) (Y + (i + 1)))) h + turnS (g (X + (w + 1)) (Y + h)) (g (X + (w + 1) - 0) (Y + (h + 1))) = sumN (lA g (X + (w + 1)) Y) (h + 1) := rfl
  have s3 : sumN (fun i => turnS (g (X + (w + 1) - i) (Y + (h + 1))) (g (X + (w + 1) - (i + 1)) (Y + (h + 1)))) w + turnS (g (X + (w + 1) - w) (Y + (h + 1))) (g X (Y + (h + 1) - 0)) = sumN (bB g X (Y + (h + 1))) (w + 1) := by
    rw [sumN_rev (bB g X (Y + (h + 1))) (w + 1)]
    simp only [sumN]
    congr 1
    · refine sumN_congr fun i hi => ?_
      unfold bB
      congr 2 <;> omega
    · unfold bB
      congr 2 <;> omega
  have s4 : sumN (fun i => turnS (g X (Y + (h + 1) - i)) (g X (Y + (h + 1) - (i + 1)))) h + turnS (g X (Y + (h + 1) - h)) (g X Y) = sumN (lB g X Y) (h + 1) := by
    rw [sumN_rev (lB g X Y) (h + 1)]
    simp only [sumN]
    congr 1
    · refine sumN_congr fun i hi => ?_
      unfold lB
      congr 2 <;> omega
    · unfold lB
      congr 2 <;> omega
  unfold ringR
  rw [sum2_eq, sum2_eq, ← s1, ← s2, ← s3, ← s4]
  omega
end Go.Proofs.Ytgpcjdhlijompaa.ore

namespace Go.Proofs.Ytgpcjdhlijompaa.ore
open Go.GE
set_option linter.unusedVariables false
set_option linter.unusedSimpArgs false
set_option maxRecDepth 100000
/-- a checked field -/
theorem chk_zero {w hh o : Int} {n off : Nat} {cs : List Value} {nd : Nat → Int} (h : chk w hh o n nd = 0) (hcs : ∀ i, i < n → cs[off + i]? = some (iv (nd i))) :
    ∃ Wf HH : Nat, w = Wf ∧ hh = HH ∧ Fld Wf HH o off n cs nd ∧ ∀ i, i < n → ¬ badAt Wf o nd i := by
  unfold chk at h
  split at h
  · exact absurd h (by decide)
  · rename_i h1
    split at h
    · exact absurd h (by decide)
    · rename_i h2
      split at h
      · exact absurd h (by decide)
      · rename_i h3
        split at h
        · exact absurd h (by decide)
        · rename_i h4
          have hd := Classical.not_not.1 h1
          have hn := Classical.not_not.1 h2
          obtain ⟨d1, d2, d3⟩ := hd
          obtain ⟨Wf, rfl⟩ : ∃ k : Nat, w = k := ⟨w.toNat, by omega⟩
          obtain ⟨HH, rfl⟩ : ∃ k : Nat, hh = k := ⟨hh.toNat, by omega⟩
          refine ⟨Wf, HH, rfl, rfl, ⟨by omega, by omega, d3, ?_, hcs, fun i hi => Classical.byContradiction fun hc => h3 ⟨i, hi, hc⟩⟩, fun i hi hb => h4 ⟨i, hi, by simpa using hb⟩⟩
          rw [Nat.mul_comm]
          have : ((n : Nat) : Int) = ((Wf * HH : Nat) : Int) := by rw [hn]; simp
          omega
def indx (g : Nat → Nat → Int) (X Y W H : Nat) : Int := (ringR g X Y W H).tdiv 3600
section
variable {Wf HH : Nat} {o : Int} {off n : Nat} (c b : Nat) {cs : List Value} {own : Bool} {nd : Nat → Int} {X Y W H : Nat} {h : List Blk}
theorem ring_same (F : Fld Wf HH o off n cs nd) (hW : 1 ≤ W) (hH : 1 ≤ H) (hX : X + W + 1 ≤ Wf) (hY : Y + H + 1 ≤ HH) : (ringP (gr Wf nd) X Y W H).2 = ringR (gr Wf nd) X Y W H :=
  ring_eq hW hH fun x y hx hy => (F.at (by omega) (by omega)).1.1
theorem k44 (F : Fld Wf HH o off n cs nd) (hb : h[b]? = some (.cells cs 1 true own)) (hW : 1 ≤ W) (hH : 1 ≤ H) (hX : X + W + 1 ≤ Wf) (hY : Y + H + 1 ≤ HH) :
    callH LL 44 [fv Wf HH o b off n c, bv X Y W H] h = some ⟨iv (indx (gr Wf nd) X Y W H), h, [b], []⟩ := by
  have e := c44 c own F hW hH hX hY
  rw [ring_same F hW hH hX hY] at e
  exact callG hb rfl e rfl
theorem k46 (F : Fld Wf HH o off n cs nd) (hb : h[b]? = some (.cells cs 1 true own)) (hW : 1 ≤ W) (hH : 1 ≤ H) (hX : X + W + 1 ≤ Wf) (hY : Y + H + 1 ≤ HH) :
    callH LL 46 [fv Wf HH o b off n c, bv X Y W H] h = some ⟨iv (indx (gr Wf nd) X Y W H), h, [b], []⟩ :=
  callG hb rfl (c46 c own F hW hH hX hY) rfl
end
open Classical in
/-- what 'Index' answers -/
noncomputable def ires (w hh o : Int) (n : Nat) (nd : Nat → Int) (X Y W H : Int) : Int × Int :=
  if chk w hh o n nd ≠ 0 then (0, chk w hh o n nd) else if ¬ hasB w hh X Y W H then (0, 1) else (indx (gr w.toNat nd) X.toNat Y.toNat W.toNat H.toNat, 0)
abbrev pr (p : Int × Int) : Value := .tuple #[iv p.1, iv p.2]
section
variable (w hh o : Int) (off n c : Nat) (X Y W H : Int) (cs : List Value) (own : Bool) (nd : Nat → Int)
theorem c20 (hcs : ∀ i, i < n → cs[off + i]? = some (iv (nd i))) (hn : n ≤ 200) : LL.run 20 [fv w hh o 0 off n c, bv X Y W H] [.cells cs 1 true own] = some ⟨pr (ires w hh o n nd X Y W H), [], []⟩ := by
  refine go (by decide) ?_
  rw [run20 _ _ _ (by simp)]
  have a1 := fun rest : List Blk => k17 w hh o 0 off n c nd (h := .cells cs 1 true own :: rest) rfl hcs hn
  by_cases h0 : chk w hh o n nd = 0
  · obtain ⟨Wf, HH, rfl, rfl, F, _⟩ := chk_zero h0 hcs
    have hw := F.hw; have hh := F.hh
    have a2 := fun rest : List Blk => k43 Wf HH o 0 off n c X Y W H (h := .cells cs 1 true own :: rest) rfl (by omega) (by omega)
    by_cases hb : hasB Wf HH X Y W H
    · have er : ires Wf HH o n nd X Y W H = (indx (gr Wf nd) X.toNat Y.toNat W.toNat H.toNat, 0) := by simp only [ires, h0, hb, ne_eq, not_true, if_false, Int.toNat_natCast]
      rw [er]
      have hb' := hb
      obtain ⟨b1, b2, b3, b4⟩ := hb'
      obtain ⟨X', rfl⟩ : ∃ k : Nat, X = k := ⟨X.toNat, by omega⟩
      obtain ⟨Y', rfl⟩ : ∃ k : Nat, Y = k := ⟨Y.toNat, by omega⟩
      obtain ⟨W', rfl⟩ : ∃ k : Nat, W = k := ⟨W.toNat, by omega⟩
      obtain ⟨H', rfl⟩ : ∃ k : Nat, H = k := ⟨H.toNat, by omega⟩
      have a3 := fun rest : List Blk => k44 (own := own) c 0 (h := .cells cs 1 true own :: rest) F rfl (X := X') (Y := Y') (W := W') (H := H') (by omega) (by omega) (by omega) (by omega)
      simp only [Int.toNat_natCast]
      simp (disch := first | omega | decide | assumption | simp [scal]) [runOps_nil, runOps_cons, runOpsF_nil, runOpsF_cons, fstS_some, fstF_some, opStep_eq, want_none, oStep_true, oStep_false, fin_pure, fin_read, fin_alloc, fin_write, storeB, wrN, cellV, addWr, o_move, o_assign, o_pick, o_alloc, o_box, o_load, o_store, o_nilCheck, o_bin, o_un, o_extract, o_callV, o_callB, o_callI, callV_f, callV_y, callV_fc, o_makeFunc, partsA, Instr.fill, builtin_len, builtin_max2, bin_add, bin_sub, bin_mul, bin_quo, bin_rem, bin_lss, bin_leq, bin_gtr, bin_geq, bin_eql, bin_neq, un_neg, un_not, opd, opds, optAll, lk, putO, put, has, rep, nbeq, nblt, constOk, isC, ops, sub, cl, cr, co, bodyOf, thenS_normal, thenS_ret, thenS_exit, thenS_goto, afterN_normal, afterN_ret, afterN_exit, afterN_goto, condS_true, condS_false, blockS_normal, blockS_ret, blockS_exit, blockS_goto, loopS_exit, loopS_ret, plainS_some, drawS_some, fpsOk, disj, unord, mem, range', dropTo, enumT, undef, wrap_i64_id, Value.cells, mkCells, ptrTo, scal, cellsAt, rdN, endS_ret, resultsA, Option.bind_some, tupV, finish, reach, reachN, dep, ptrL_eq, ptrL, renL_eq, renL, ptrV_bool, ptrV_int, ptrV_string, ptrV_nilFunc, ptrV_nilIface, ptrV_nilPtr, ptrV_ptr, ptrV_nilSl, ptrV_sl, ptrV_iface, ptrV_agg, ptrV_tuple, ptrV_func, renV_bool, renV_int, renV_string, renV_nilFunc, renV_nilIface, renV_nilPtr, renV_ptr, renV_nilSl, renV_sl, renV_iface, renV_agg, renV_tuple, renV_func, loadA_eq ia_24, loadA_eq ia_35, n20_1s, n20_3s, n20_7s, n20_10s, n20_11s, n20_9s, n20_13s, n20_16s, n20_17s, n20_15s, n20_18s, n20_14s, n20_12s, n20_8s, n20_6s, n20_5s, n20_20s, n20_21s, n20_19s, n20_4s, n20_2s, n20_0s, Try.f20, a1, a2, a3, h0, hb]
    · have er : ires Wf HH o n nd X Y W H = (0, 1) := by simp only [ires, h0, hb, ne_eq, not_true, if_false, not_false_eq_true, if_true]
      rw [er]
      simp (disch := first | omega | decide | assumption | simp [scal]) [runOps_nil, runOps_cons, runOpsF_nil, runOpsF_cons, fstS_some, fstF_some, opStep_eq, want_none, oStep_true, oStep_false, fin_pure, fin_read, fin_alloc, fin_write, storeB, wrN, cellV, addWr, o_move, o_assign, o_pick, o_alloc, o_box, o_load, o_store, o_nilCheck, o_bin, o_un, o_extract, o_callV, o_callB, o_callI, callV_f, callV_y, callV_fc, o_makeFunc, partsA, Instr.fill, builtin_len, builtin_max2, bin_add, bin_sub, bin_mul, bin_quo, bin_rem, bin_lss, bin_leq, bin_gtr, bin_geq, bin_eql, bin_neq, un_neg, un_not, opd, opds, optAll, lk, putO, put, has, rep, nbeq, nblt, constOk, isC, ops, sub, cl, cr, co, bodyOf, thenS_normal, thenS_ret, thenS_exit, thenS_goto, afterN_normal, afterN_ret, afterN_exit, afterN_goto, condS_true, condS_false, blockS_normal, blockS_ret, blockS_exit, blockS_goto, loopS_exit, loopS_ret, plainS_some, drawS_some, fpsOk, disj, unord, mem, range', dropTo, enumT, undef, wrap_i64_id, Value.cells, mkCells, ptrTo, scal, cellsAt, rdN, endS_ret, resultsA, Option.bind_some, tupV, finish, reach, reachN, dep, ptrL_eq, ptrL, renL_eq, renL, ptrV_bool, ptrV_int, ptrV_string, ptrV_nilFunc, ptrV_nilIface, ptrV_nilPtr, ptrV_ptr, ptrV_nilSl, ptrV_sl, ptrV_iface, ptrV_agg, ptrV_tuple, ptrV_func, renV_bool, renV_int, renV_string, renV_nilFunc, renV_nilIface, renV_nilPtr, renV_ptr, renV_nilSl, renV_sl, renV_iface, renV_agg, renV_tuple, renV_func, loadA_eq ia_24, loadA_eq ia_35, n20_1s, n20_3s, n20_7s, n20_10s, n20_11s, n20_9s, n20_13s, n20_16s, n20_17s, n20_15s, n20_18s, n20_14s, n20_12s, n20_8s, n20_6s, n20_5s, n20_20s, n20_21s, n20_19s, n20_4s, n20_2s, n20_0s, Try.f20, a1, a2, h0, hb]
  · have er : ires w hh o n nd X Y W H = (0, chk w hh o n nd) := by simp only [ires, h0, ne_eq, not_false_eq_true, if_true]
    rw [er]
    simp (disch := first | omega | decide | assumption | simp [scal]) [runOps_nil, runOps_cons, runOpsF_nil, runOpsF_cons, fstS_some, fstF_some, opStep_eq, want_none, oStep_true, oStep_false, fin_pure, fin_read, fin_alloc, fin_write, storeB, wrN, cellV, addWr, o_move, o_assign, o_pick, o_alloc, o_box, o_load, o_store, o_nilCheck, o_bin, o_un, o_extract, o_callV, o_callB, o_callI, callV_f, callV_y, callV_fc, o_makeFunc, partsA, Instr.fill, builtin_len, builtin_max2, bin_add, bin_sub, bin_mul, bin_quo, bin_rem, bin_lss, bin_leq, bin_gtr, bin_geq, bin_eql, bin_neq, un_neg, un_not, opd, opds, optAll, lk, putO, put, has, rep, nbeq, nblt, constOk, isC, ops, sub, cl, cr, co, bodyOf, thenS_normal, thenS_ret, thenS_exit, thenS_goto, afterN_normal, afterN_ret, afterN_exit, afterN_goto, condS_true, condS_false, blockS_normal, blockS_ret, blockS_exit, blockS_goto, loopS_exit, loopS_ret, plainS_some, drawS_some, fpsOk, disj, unord, mem, range', dropTo, enumT, undef, wrap_i64_id, Value.cells, mkCells, ptrTo, scal, cellsAt, rdN, endS_ret, resultsA, Option.bind_some, tupV, finish, reach, reachN, dep, ptrL_eq, ptrL, renL_eq, renL, ptrV_bool, ptrV_int, ptrV_string, ptrV_nilFunc, ptrV_nilIface, ptrV_nilPtr, ptrV_ptr, ptrV_nilSl, ptrV_sl, ptrV_iface, ptrV_agg, ptrV_tuple, ptrV_func, renV_bool, renV_int, renV_string, renV_nilFunc, renV_nilIface, renV_nilPtr, renV_ptr, renV_nilSl, renV_sl, renV_iface, renV_agg, renV_tuple, renV_func, loadA_eq ia_24, loadA_eq ia_35, n20_1s, n20_3s, n20_7s, n20_10s, n20_11s, n20_9s, n20_13s, n20_16s, n20_17s, n20_15s, n20_18s, n20_14s, n20_12s, n20_8s, n20_6s, n20_5s, n20_20s, n20_21s, n20_19s, n20_4s, n20_2s, n20_0s, Try.f20, a1, h0]
theorem c21 (hcs : ∀ i, i < n → cs[off + i]? = some (iv (nd i))) (hn : n ≤ 200) : LL.run 21 [fv w hh o 0 off n c, bv X Y W H] [.cells cs 1 true own] = some ⟨pr (ires w hh o n nd X Y W H), [], []⟩ := by
  refine go (by decide) ?_
  rw [run21 _ _ _ (by simp)]
  have a1 := fun rest : List Blk => k18 w hh o 0 off n c nd (h := .cells cs 1 true own :: rest) rfl hcs hn
  by_cases h0 : chk w hh o n nd = 0
  · obtain ⟨Wf, HH, rfl, rfl, F, _⟩ := chk_zero h0 hcs
    have hw := F.hw; have hh := F.hh
    have a2 := fun rest : List Blk => k45 Wf HH o 0 off n c X Y W H (h := .cells cs 1 true own :: rest) rfl (by omega) (by omega)
    by_cases hb : hasB Wf HH X Y W H
    · have er : ires Wf HH o n nd X Y W H = (indx (gr Wf nd) X.toNat Y.toNat W.toNat H.toNat, 0) := by simp only [ires, h0, hb, ne_eq, not_true, if_false, Int.toNat_natCast]
      rw [er]
      have hb' := hb
      obtain ⟨b1, b2, b3, b4⟩ := hb'
      obtain ⟨X', rfl⟩ : ∃ k : Nat, X = k := ⟨X.toNat, by omega⟩
      obtain ⟨Y', rfl⟩ : ∃ k : Nat, Y = k := ⟨Y.toNat, by omega⟩
      obtain ⟨W', rfl⟩ : ∃ k : Nat, W = k := ⟨W.toNat, by omega⟩
      obtain ⟨H', rfl⟩ : ∃ k : Nat, H = k := ⟨H.toNat, by omega⟩
      have a3 := fun rest : List Blk => k46 (own := own) c 0 (h := .cells cs 1 true own :: rest) F rfl (X := X') (Y := Y') (W := W') (H := H') (by omega) (by omega) (by omega) (by omega)
      simp only [Int.toNat_natCast]
      simp (disch := first | omega | decide | assumption | simp [scal]) [runOps_nil, runOps_cons, runOpsF_nil, runOpsF_cons, fstS_some, fstF_some, opStep_eq, want_none, oStep_true, oStep_false, fin_pure, fin_read, fin_alloc, fin_write, storeB, wrN, cellV, addWr, o_move, o_assign, o_pick, o_alloc, o_box, o_load, o_store, o_nilCheck, o_bin, o_un, o_extract, o_callV, o_callB, o_callI, callV_f, callV_y, callV_fc, o_makeFunc, partsA, Instr.fill, builtin_len, builtin_max2, bin_add, bin_sub, bin_mul, bin_quo, bin_rem, bin_lss, bin_leq, bin_gtr, bin_geq, bin_eql, bin_neq, un_neg, un_not, opd, opds, optAll, lk, putO, put, has, rep, nbeq, nblt, constOk, isC, ops, sub, cl, cr, co, bodyOf, thenS_normal, thenS_ret, thenS_exit, thenS_goto, afterN_normal, afterN_ret, afterN_exit, afterN_goto, condS_true, condS_false, blockS_normal, blockS_ret, blockS_exit, blockS_goto, loopS_exit, loopS_ret, plainS_some, drawS_some, fpsOk, disj, unord, mem, range', dropTo, enumT, undef, wrap_i64_id, Value.cells, mkCells, ptrTo, scal, cellsAt, rdN, endS_ret, resultsA, Option.bind_some, tupV, finish, reach, reachN, dep, ptrL_eq, ptrL, renL_eq, renL, ptrV_bool, ptrV_int, ptrV_string, ptrV_nilFunc, ptrV_nilIface, ptrV_nilPtr, ptrV_ptr, ptrV_nilSl, ptrV_sl, ptrV_iface, ptrV_agg, ptrV_tuple, ptrV_func, renV_bool, renV_int, renV_string, renV_nilFunc, renV_nilIface, renV_nilPtr, renV_ptr, renV_nilSl, renV_sl, renV_iface, renV_agg, renV_tuple, renV_func, loadA_eq ia_31, loadA_eq ia_38, n21_1s, n21_3s, n21_6s, n21_8s, n21_9s, n21_7s, n21_5s, n21_12s, n21_15s, n21_16s, n21_14s, n21_17s, n21_13s, n21_11s, n21_19s, n21_20s, n21_18s, n21_10s, n21_4s, n21_2s, n21_0s, want_some q21_6g2, Try.f21, a1, a2, a3, h0, hb]
    · have er : ires Wf HH o n nd X Y W H = (0, 1) := by simp only [ires, h0, hb, ne_eq, not_true, if_false, not_false_eq_true, if_true]
      rw [er]
      simp (disch := first | omega | decide | assumption | simp [scal]) [runOps_nil, runOps_cons, runOpsF_nil, runOpsF_cons, fstS_some, fstF_some, opStep_eq, want_none, oStep_true, oStep_false, fin_pure, fin_read, fin_alloc, fin_write, storeB, wrN, cellV, addWr, o_move, o_assign, o_pick, o_alloc, o_box, o_load, o_store, o_nilCheck, o_bin, o_un, o_extract, o_callV, o_callB, o_callI, callV_f, callV_y, callV_fc, o_makeFunc, partsA, Instr.fill, builtin_len, builtin_max2, bin_add, bin_sub, bin_mul, bin_quo, bin_rem, bin_lss, bin_leq, bin_gtr, bin_geq, bin_eql, bin_neq, un_neg, un_not, opd, opds, optAll, lk, putO, put, has, rep, nbeq, nblt, constOk, isC, ops, sub, cl, cr, co, bodyOf, thenS_normal, thenS_ret, thenS_exit, thenS_goto, afterN_normal, afterN_ret, afterN_exit, afterN_goto, condS_true, condS_false, blockS_normal, blockS_ret, blockS_exit, blockS_goto, loopS_exit, loopS_ret, plainS_some, drawS_some, fpsOk, disj, unord, mem, range', dropTo, enumT, undef, wrap_i64_id, Value.cells, mkCells, ptrTo, scal, cellsAt, rdN, endS_ret, resultsA, Option.bind_some, tupV, finish, reach, reachN, dep, ptrL_eq, ptrL, renL_eq, renL, ptrV_bool, ptrV_int, ptrV_string, ptrV_nilFunc, ptrV_nilIface, ptrV_nilPtr, ptrV_ptr, ptrV_nilSl, ptrV_sl, ptrV_iface, ptrV_agg, ptrV_tuple, ptrV_func, renV_bool, renV_int, renV_string, renV_nilFunc, renV_nilIface, renV_nilPtr, renV_ptr, renV_nilSl, renV_sl, renV_iface, renV_agg, renV_tuple, renV_func, loadA_eq ia_31, loadA_eq ia_38, n21_1s, n21_3s, n21_6s, n21_8s, n21_9s, n21_7s, n21_5s, n21_12s, n21_15s, n21_16s, n21_14s, n21_17s, n21_13s, n21_11s, n21_19s, n21_20s, n21_18s, n21_10s, n21_4s, n21_2s, n21_0s, want_some q21_6g2, Try.f21, a1, a2, h0, hb]
  · have er : ires w hh o n nd X Y W H = (0, chk w hh o n nd) := by simp only [ires, h0, ne_eq, not_false_eq_true, if_true]
    rw [er]
    simp (disch := first | omega | decide | assumption | simp [scal]) [runOps_nil, runOps_cons, runOpsF_nil, runOpsF_cons, fstS_some, fstF_some, opStep_eq, want_none, oStep_true, oStep_false, fin_pure, fin_read, fin_alloc, fin_write, storeB, wrN, cellV, addWr, o_move, o_assign, o_pick, o_alloc, o_box, o_load, o_store, o_nilCheck, o_bin, o_un, o_extract, o_callV, o_callB, o_callI, callV_f, callV_y, callV_fc, o_makeFunc, partsA, Instr.fill, builtin_len, builtin_max2, bin_add, bin_sub, bin_mul, bin_quo, bin_rem, bin_lss, bin_leq, bin_gtr, bin_geq, bin_eql, bin_neq, un_neg, un_not, opd, opds, optAll, lk, putO, put, has, rep, nbeq, nblt, constOk, isC, ops, sub, cl, cr, co, bodyOf, thenS_normal, thenS_ret, thenS_exit, thenS_goto, afterN_normal, afterN_ret, afterN_exit, afterN_goto, condS_true, condS_false, blockS_normal, blockS_ret, blockS_exit, blockS_goto, loopS_exit, loopS_ret, plainS_some, drawS_some, fpsOk, disj, unord, mem, range', dropTo, enumT, undef, wrap_i64_id, Value.cells, mkCells, ptrTo, scal, cellsAt, rdN, endS_ret, resultsA, Option.bind_some, tupV, finish, reach, reachN, dep, ptrL_eq, ptrL, renL_eq, renL, ptrV_bool, ptrV_int, ptrV_string, ptrV_nilFunc, ptrV_nilIface, ptrV_nilPtr, ptrV_ptr, ptrV_nilSl, ptrV_sl, ptrV_iface, ptrV_agg, ptrV_tuple, ptrV_func, renV_bool, renV_int, renV_string, renV_nilFunc, renV_nilIface, renV_nilPtr, renV_ptr, renV_nilSl, renV_sl, renV_iface, renV_agg, renV_tuple, renV_func, loadA_eq ia_31, loadA_eq ia_38, n21_1s, n21_3s, n21_6s, n21_8s, n21_9s, n21_7s, n21_5s, n21_12s, n21_15s, n21_16s, n21_14s, n21_17s, n21_13s, n21_11s, n21_19s, n21_20s, n21_18s, n21_10s, n21_4s, n21_2s, n21_0s, want_some q21_6g2, Try.f21, a1, h0]
end
theorem chk_nil (w hh o : Int) (nd : Nat → Int) : chk w hh o 0 nd ≠ 0 := by
  unfold chk
  split
  · decide
  · rename_i hd
    obtain ⟨d1, d2, _⟩ := Classical.not_not.1 hd
    have := prod_small d1 d2
    rw [if_pos (by omega)]
    decide
theorem c20n (w hh o X Y W H : Int) (nd : Nat → Int) : LL.run 20 [fvn w hh o, bv X Y W H] [] = some ⟨pr (ires w hh o 0 nd X Y W H), [], []⟩ := by
  refine go (by decide) ?_
  rw [run20 _ _ _ (by simp)]
  have a1 := k17n w hh o nd
  have h0 := chk_nil w hh o nd
  have er : ires w hh o 0 nd X Y W H = (0, chk w hh o 0 nd) := by simp only [ires, h0, ne_eq, not_false_eq_true, if_true]
  rw [er]
  simp (disch := first | omega | decide | assumption | simp [scal]) [runOps_nil, runOps_cons, runOpsF_nil, runOpsF_cons, fstS_some, fstF_some, opStep_eq, want_none, oStep_true, oStep_false, fin_pure, fin_read, fin_alloc, fin_write, storeB, wrN, cellV, addWr, o_move, o_assign, o_pick, o_alloc, o_box, o_load, o_store, o_nilCheck, o_bin, o_un, o_extract, o_callV, o_callB, o_callI, callV_f, callV_y, callV_fc, o_makeFunc, partsA, Instr.fill, builtin_len, builtin_max2, bin_add, bin_sub, bin_mul, bin_quo, bin_rem, bin_lss, bin_leq, bin_gtr, bin_geq, bin_eql, bin_neq, un_neg, un_not, opd, opds, optAll, lk, putO, put, has, rep, nbeq, nblt, constOk, isC, ops, sub, cl, cr, co, bodyOf, thenS_normal, thenS_ret, thenS_exit, thenS_goto, afterN_normal, afterN_ret, afterN_exit, afterN_goto, condS_true, condS_false, blockS_normal, blockS_ret, blockS_exit, blockS_goto, loopS_exit, loopS_ret, plainS_some, drawS_some, fpsOk, disj, unord, mem, range', dropTo, enumT, undef, wrap_i64_id, Value.cells, mkCells, ptrTo, scal, cellsAt, rdN, endS_ret, resultsA, Option.bind_some, tupV, finish, reach, reachN, dep, ptrL_eq, ptrL, renL_eq, renL, ptrV_bool, ptrV_int, ptrV_string, ptrV_nilFunc, ptrV_nilIface, ptrV_nilPtr, ptrV_ptr, ptrV_nilSl, ptrV_sl, ptrV_iface, ptrV_agg, ptrV_tuple, ptrV_func, renV_bool, renV_int, renV_string, renV_nilFunc, renV_nilIface, renV_nilPtr, renV_ptr, renV_nilSl, renV_sl, renV_iface, renV_agg, renV_tuple, renV_func, loadA_eq ia_24, loadA_eq ia_35, n20_1s, n20_3s, n20_7s, n20_10s, n20_11s, n20_9s, n20_13s, n20_16s, n20_17s, n20_15s, n20_18s, n20_14s, n20_12s, n20_8s, n20_6s, n20_5s, n20_20s, n20_21s, n20_19s, n20_4s, n20_2s, n20_0s, Try.f20, a1, h0]
theorem c21n (w hh o X Y W H : Int) (nd : Nat → Int) : LL.run 21 [fvn w hh o, bv X Y W H] [] = some ⟨pr (ires w hh o 0 nd X Y W H), [], []⟩ := by
  refine go (by decide) ?_
  rw [run21 _ _ _ (by simp)]
  have a1 := k18n w hh o nd
  have h0 := chk_nil w hh o nd
  have er : ires w hh o 0 nd X Y W H = (0, chk w hh o 0 nd) := by simp only [ires, h0, ne_eq, not_false_eq_true, if_true]
  rw [er]
  simp (disch := first | omega | decide | assumption | simp [scal]) [runOps_nil, runOps_cons, runOpsF_nil, runOpsF_cons, fstS_some, fstF_some, opStep_eq, want_none, oStep_true, oStep_false, fin_pure, fin_read, fin_alloc, fin_write, storeB, wrN, cellV, addWr, o_move, o_assign, o_pick, o_alloc, o_box, o_load, o_store, o_nilCheck, o_bin, o_un, o_extract, o_callV, o_callB, o_callI, callV_f, callV_y, callV_fc, o_makeFunc, partsA, Instr.fill, builtin_len, builtin_max2, bin_add, bin_sub, bin_mul, bin_quo, bin_rem, bin_lss, bin_leq, bin_gtr, bin_geq, bin_eql, bin_neq, un_neg, un_not, opd, opds, optAll, lk, putO, put, has, rep, nbeq, nblt, constOk, isC, ops, sub, cl, cr, co, bodyOf, thenS_normal, thenS_ret, thenS_exit, thenS_goto, afterN_normal, afterN_ret, afterN_exit, afterN_goto, condS_true, condS_false, blockS_normal, blockS_ret, blockS_exit, blockS_goto, loopS_exit, loopS_ret, plainS_some, drawS_some, fpsOk, disj, unord, mem, range', dropTo, enumT, undef, wrap_i64_id, Value.cells, mkCells, ptrTo, scal, cellsAt, rdN, endS_ret, resultsA, Option.bind_some, tupV, finish, reach, reachN, dep, ptrL_eq, ptrL, renL_eq, renL, ptrV_bool, ptrV_int, ptrV_string, ptrV_nilFunc, ptrV_nilIface, ptrV_nilPtr, ptrV_ptr, ptrV_nilSl, ptrV_sl, ptrV_iface, ptrV_agg, ptrV_tuple, ptrV_func, renV_bool, renV_int, renV_string, renV_nilFunc, renV_nilIface, renV_nilPtr, renV_ptr, renV_nilSl, renV_sl, renV_iface, renV_agg, renV_tuple, renV_func, loadA_eq ia_31, loadA_eq ia_38, n21_1s, n21_3s, n21_6s, n21_8s, n21_9s, n21_7s, n21_5s, n21_12s, n21_15s, n21_16s, n21_14s, n21_17s, n21_13s, n21_11s, n21_19s, n21_20s, n21_18s, n21_10s, n21_4s, n21_2s, n21_0s, want_some q21_6g2, Try.f21, a1, h0]
theorem k20 (w hh o : Int) (b off n c : Nat) (X Y W H : Int) (nd : Nat → Int) {h : List Blk} {cs : List Value} {own : Bool} (hb : h[b]? = some (.cells cs 1 true own)) (hcs : ∀ i, i < n → cs[off + i]? = some (iv (nd i))) (hn : n ≤ 200) :
    callH LL 20 [fv w hh o b off n c, bv X Y W H] h = some ⟨pr (ires w hh o n nd X Y W H), h, [b], []⟩ := callG hb rfl (c20 w hh o off n c X Y W H cs own nd hcs hn) rfl
theorem k21 (w hh o : Int) (b off n c : Nat) (X Y W H : Int) (nd : Nat → Int) {h : List Blk} {cs : List Value} {own : Bool} (hb : h[b]? = some (.cells cs 1 true own)) (hcs : ∀ i, i < n → cs[off + i]? = some (iv (nd i))) (hn : n ≤ 200) :
    callH LL 21 [fv w hh o b off n c, bv X Y W H] h = some ⟨pr (ires w hh o n nd X Y W H), h, [b], []⟩ := callG hb rfl (c21 w hh o off n c X Y W H cs own nd hcs hn) rfl
theorem k20n (w hh o X Y W H : Int) (nd : Nat → Int) (h : List Blk) : callH LL 20 [fvn w hh o, bv X Y W H] h = some ⟨pr (ires w hh o 0 nd X Y W H), h, [], []⟩ := by
  have e := c20n w hh o X Y W H nd
  simp [callH, ptrL_eq, ptrL, renL_eq, renL, ptrV_agg, ptrV_int, ptrV_nilSl, renV_agg, renV_int, renV_nilSl, renV_tuple, dep, optAll, reach, reachN, e, mergeB]
theorem k21n (w hh o X Y W H : Int) (nd : Nat → Int) (h : List Blk) : callH LL 21 [fvn w hh o, bv X Y W H] h = some ⟨pr (ires w hh o 0 nd X Y W H), h, [], []⟩ := by
  have e := c21n w hh o X Y W H nd
  simp [callH, ptrL_eq, ptrL, renL_eq, renL, ptrV_agg, ptrV_int, ptrV_nilSl, renV_agg, renV_int, renV_nilSl, renV_tuple, dep, optAll, reach, reachN, e, mergeB]
end Go.Proofs.Ytgpcjdhlijompaa.ore

namespace Go.Proofs.Ytgpcjdhlijompaa.ore
open Go.GE
set_option linter.unusedVariables false
set_option linter.unusedSimpArgs false
set_option maxRecDepth 100000
theorem ptrB_flat {cs : List Value} {e : Nat} {own : Bool} : ptrB (.cells cs e true own) = [] := rfl
theorem ptrB_non {cs : List Value} {e : Nat} {own : Bool} : ptrB (.cells cs e false own) = ptrL dep cs := ptrL_eq
theorem renB_flat {f : Nat → Option Nat} {cs : List Value} {e : Nat} {own : Bool} : renB f (.cells cs e true own) = some (.cells cs e true own) := rfl
theorem renB_non {f : Nat → Option Nat} {cs : List Value} {e : Nat} {own : Bool} : renB f (.cells cs e false own) = (renL f dep cs).map fun l => .cells l e false own := by rw [← renL_eq]; rfl
end Go.Proofs.Ytgpcjdhlijompaa.ore

