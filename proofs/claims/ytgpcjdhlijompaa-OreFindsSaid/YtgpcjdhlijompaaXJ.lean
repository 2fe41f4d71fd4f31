/-
  Contracts of functions of the program at the limit evaluator, continued. No condition.
-/
import Derived.Test.YtgpcjdhlijompaaXD
import Derived.Test.YtgpcjdhlijompaaXI
namespace Go.Proofs.Ytgpcjdhlijompaa.ore
open Go.GE
set_option linter.unusedVariables false
set_option linter.unusedSimpArgs false
/-! ### indices add up -/
theorem turnS_mod (a b : Int) : ∃ k, turnS a b = b - a + 3600 * k := ⟨(a - b + 5400) / 3600 - 1, by unfold turnS; omega⟩
theorem turnS_anti {a b : Int} (h : turnS a b ≠ 1800) : turnS b a = -turnS a b := by unfold turnS at *; omega
theorem tel_b (g : Nat → Nat → Int) (X Y : Nat) : ∀ W, ∃ k, sumN (bA g X Y) W = g (X + W) Y - g X Y + 3600 * k := by
  intro W
  induction W with
  | zero => exact ⟨0, by simp [sumN]⟩
  | succ W ih =>
    obtain ⟨k, hk⟩ := ih
    obtain ⟨j, hj⟩ := turnS_mod (g (X + W) Y) (g (X + W + 1) Y)
    refine ⟨k + j, ?_⟩
    simp only [sumN, hk, bA, hj]
    rw [show X + (W + 1) = X + W + 1 by omega]
    omega
theorem tel_l (g : Nat → Nat → Int) (X Y : Nat) : ∀ H, ∃ k, sumN (lA g X Y) H = g X (Y + H) - g X Y + 3600 * k := by
  intro H
  induction H with
  | zero => exact ⟨0, by simp [sumN]⟩
  | succ H ih =>
    obtain ⟨k, hk⟩ := ih
    obtain ⟨j, hj⟩ := turnS_mod (g X (Y + H)) (g X (Y + H + 1))
    refine ⟨k + j, ?_⟩
    simp only [sumN, hk, lA, hj]
    rw [show Y + (H + 1) = Y + H + 1 by omega]
    omega
theorem tel_b' (g : Nat → Nat → Int) (X Y : Nat) : ∀ W, ∃ k, sumN (bB g X Y) W = g X Y - g (X + W) Y + 3600 * k := by
  intro W
  induction W with
  | zero => exact ⟨0, by simp [sumN]⟩
  | succ W ih =>
    obtain ⟨k, hk⟩ := ih
    obtain ⟨j, hj⟩ := turnS_mod (g (X + W + 1) Y) (g (X + W) Y)
    refine ⟨k + j, ?_⟩
    simp only [sumN, hk, bB, hj]
    rw [show X + (W + 1) = X + W + 1 by omega]
    omega
theorem tel_l' (g : Nat → Nat → Int) (X Y : Nat) : ∀ H, ∃ k, sumN (lB g X Y) H = g X Y - g X (Y + H) + 3600 * k := by
  intro H
  induction H with
  | zero => exact ⟨0, by simp [sumN]⟩
  | succ H ih =>
    obtain ⟨k, hk⟩ := ih
    obtain ⟨j, hj⟩ := turnS_mod (g X (Y + H + 1)) (g X (Y + H))
    refine ⟨k + j, ?_⟩
    simp only [sumN, hk, lB, hj]
    rw [show Y + (H + 1) = Y + H + 1 by omega]
    omega
theorem ringR_sum (g : Nat → Nat → Int) (X Y W H : Nat) : ringR g X Y W H = sumN (bA g X Y) W + sumN (bB g X (Y + H)) W + sumN (lA g (X + W) Y) H + sumN (lB g X Y) H := by
  unfold ringR
  rw [sum2_eq, sum2_eq]
  omega
theorem ring_mod (g : Nat → Nat → Int) (X Y W H : Nat) : ∃ k, ringR g X Y W H = 3600 * k := by
  obtain ⟨a, ha⟩ := tel_b g X Y W
  obtain ⟨b, hb⟩ := tel_b' g X (Y + H) W
  obtain ⟨c, hc⟩ := tel_l g (X + W) Y H
  obtain ⟨d, hd⟩ := tel_l' g X Y H
  exact ⟨a + b + c + d, by rw [ringR_sum, ha, hb, hc, hd]; omega⟩
theorem indx_spec (g : Nat → Nat → Int) (X Y W H : Nat) : ringR g X Y W H = 3600 * indx g X Y W H := by
  obtain ⟨k, hk⟩ := ring_mod g X Y W H
  unfold indx
  rw [hk, Int.mul_tdiv_cancel_left _ (by decide)]
/-- all turns between neighbours are less than half a turn -/
structure Sure (g : Nat → Nat → Int) (Wf HH : Nat) : Prop where
  right : ∀ x y, x + 1 < Wf → y < HH → turnS (g x y) (g (x + 1) y) ≠ 1800
  up : ∀ x y, x < Wf → y + 1 < HH → turnS (g x y) (g x (y + 1)) ≠ 1800
theorem sure_ne {o a b : Int} (ho : 0 ≤ o) (h : sureS o (turnS a b)) : turnS a b ≠ 1800 := by unfold sureS at h; omega
theorem Fld.sure {Wf HH : Nat} {o : Int} {off n : Nat} {cs : List Value} {nd : Nat → Int} (F : Fld Wf HH o off n cs nd) (hg : ∀ i, i < n → ¬ badAt Wf o nd i) : Sure (gr Wf nd) Wf HH := by
  have hw := F.hw
  constructor
  · intro x y hx hy
    have hi : y * Wf + (x + 1) < n := by
      have := Nat.mul_le_mul_right Wf (show y + 1 ≤ HH by omega)
      rw [Nat.add_mul, Nat.one_mul] at this
      rw [F.hn]; omega
    have h := hg _ hi
    simp only [badAt, badL, badU, not_or, not_and, Classical.not_not] at h
    rw [Nat.mul_add_mod_of_lt' hx] at h
    have := h.1 (by omega)
    rw [show y * Wf + (x + 1) - 1 = y * Wf + x by omega] at this
    rw [sure_comm] at this
    exact sure_ne F.ho.1 this
  · intro x y hx hy
    have hi : (y + 1) * Wf + x < n := by
      have := Nat.mul_le_mul_right Wf (show y + 1 + 1 ≤ HH by omega)
      rw [Nat.add_mul (y + 1), Nat.one_mul] at this
      rw [F.hn]; omega
    have h := hg _ hi
    simp only [badAt, badL, badU, not_or, not_and, Classical.not_not] at h
    rw [Nat.mul_add_div_of_lt' hx] at h
    have := h.2 (by omega)
    have e : (y + 1) * Wf + x - Wf = y * Wf + x := by rw [Nat.add_mul, Nat.one_mul]; omega
    rw [e, sure_comm] at this
    exact sure_ne F.ho.1 this
section
variable {g : Nat → Nat → Int} {Wf HH X Y W H n : Nat}
theorem ring_up (S : Sure g Wf HH) (hX : X + W + 1 ≤ Wf) (hY : Y + H + 1 ≤ HH) (hn : n ≤ W) : ringR g X Y W H = ringR g X Y n H + ringR g (X + n) Y (W - n) H := by
  obtain ⟨m, rfl⟩ : ∃ m, W = n + m := ⟨W - n, by omega⟩
  rw [ringR_sum, ringR_sum, ringR_sum, sumN_split, sumN_split, show n + m - n = m by omega]
  have e1 : sumN (fun i => bA g X Y (n + i)) m = sumN (bA g (X + n) Y) m := sumN_congr fun i _ => by unfold bA; rw [show X + (n + i) = X + n + i by omega]
  have e2 : sumN (fun i => bB g X (Y + H) (n + i)) m = sumN (bB g (X + n) (Y + H)) m := sumN_congr fun i _ => by unfold bB; rw [show X + (n + i) = X + n + i by omega]
  have e3 : sumN (lB g (X + n) Y) H = -sumN (lA g (X + n) Y) H := by
    rw [← sumN_neg]
    refine sumN_congr fun i hi => ?_
    unfold lA lB
    exact turnS_anti (S.up _ _ (by omega) (by omega))
  rw [e1, e2, e3, show X + (n + m) = X + n + m by omega]
  omega
theorem ring_lev (S : Sure g Wf HH) (hX : X + W + 1 ≤ Wf) (hY : Y + H + 1 ≤ HH) (hn : n ≤ H) : ringR g X Y W H = ringR g X Y W n + ringR g X (Y + n) W (H - n) := by
  obtain ⟨m, rfl⟩ : ∃ m, H = n + m := ⟨H - n, by omega⟩
  rw [ringR_sum, ringR_sum, ringR_sum, sumN_split (lA g (X + W) Y), sumN_split (lB g X Y), show n + m - n = m by omega]
  have e1 : sumN (fun i => lA g (X + W) Y (n + i)) m = sumN (lA g (X + W) (Y + n)) m := sumN_congr fun i _ => by unfold lA; rw [show Y + (n + i) = Y + n + i by omega]
  have e2 : sumN (fun i => lB g X Y (n + i)) m = sumN (lB g X (Y + n)) m := sumN_congr fun i _ => by unfold lB; rw [show Y + (n + i) = Y + n + i by omega]
  have e3 : sumN (bB g X (Y + n)) W = -sumN (bA g X (Y + n)) W := by
    rw [← sumN_neg]
    refine sumN_congr fun i hi => ?_
    unfold bA bB
    exact turnS_anti (S.right _ _ (by omega) (by omega))
  rw [e1, e2, e3, show Y + (n + m) = Y + n + m by omega]
  omega
theorem indx_up (S : Sure g Wf HH) (hX : X + W + 1 ≤ Wf) (hY : Y + H + 1 ≤ HH) (hn : n ≤ W) : indx g X Y W H = indx g X Y n H + indx g (X + n) Y (W - n) H := by
  have := ring_up S hX hY hn
  rw [indx_spec, indx_spec, indx_spec] at this
  omega
theorem indx_lev (S : Sure g Wf HH) (hX : X + W + 1 ≤ Wf) (hY : Y + H + 1 ≤ HH) (hn : n ≤ H) : indx g X Y W H = indx g X Y W n + indx g X (Y + n) W (H - n) := by
  have := ring_lev S hX hY hn
  rw [indx_spec, indx_spec, indx_spec] at this
  omega
end
end Go.Proofs.Ytgpcjdhlijompaa.ore


namespace Go.Proofs.Ytgpcjdhlijompaa.ore
open Go.GE
set_option linter.unusedVariables false
set_option linter.unusedSimpArgs false
set_option maxRecDepth 100000
theorem fl29 : findLabel n29_3 0 = some (.seq .skip n29_24) := by kernel_rfl
theorem ks29 : (ue (.seq .skip n29_24)).1 ++ ((Try.prog.funcs[29]?).map fun f => f.results.toList.map resT).getD [] = [8, 3, 5, 4, 2, 4, 5, 6] := by kernel_rfl
section
variable (Wf HH : Nat) (o : Int) (off n c : Nat) (cs : List Value) (own : Bool) (nd : Nat → Int) (S : Sz)
def s29 (r : Int) : Tm := [(8, .pointer (some ⟨1, 0, none⟩)), (6, iv 0), (5, iv r), (4, .pointer (some ⟨2, 0, none⟩)), (3, .pointer (some ⟨3, 0, none⟩)), (2, .pointer (some ⟨4, 0, none⟩))]
def h29 (x y w h : Int) : List Blk := [.cells cs 1 true own, planB S, .cells [iv 0, iv 0, iv 0, iv 0] 1 true true, bb x y w h, fb Wf HH o 0 off n c]
theorem sw29 (x y w h r : Int) (b5 b6 : Blk) : sweep 1 ⟨s29 r, h29 Wf HH o off n c cs own S x y w h ++ [b5, b6], []⟩ = some ⟨s29 r, h29 Wf HH o off n c cs own S x y w h, []⟩ := by
  simp only [s29, h29, bb, fb]
  simp (disch := first | omega | decide | assumption | simp [scal]) [runOps_nil, runOps_cons, runOpsF_nil, runOpsF_cons, fstS_some, fstF_some, opStep_eq, want_none, oStep_true, oStep_false, fin_pure, fin_read, fin_alloc, fin_write, storeB, wrN, cellV, addWr, o_move, o_assign, o_pick, o_alloc, o_box, o_load, o_store, o_nilCheck, o_bin, o_un, o_extract, o_callV, o_callB, o_callI, callV_f, callV_y, callV_fc, o_makeFunc, partsA, Instr.fill, builtin_len, builtin_max2, bin_add, bin_sub, bin_mul, bin_quo, bin_rem, bin_lss, bin_leq, bin_gtr, bin_geq, bin_eql, bin_neq, un_neg, un_not, opd, opds, optAll, lk, putO, put, has, rep, nbeq, nblt, constOk, isC, ops, sub, cl, cr, co, bodyOf, thenS_normal, thenS_ret, thenS_exit, thenS_goto, afterN_normal, afterN_ret, afterN_exit, afterN_goto, condS_true, condS_false, blockS_normal, blockS_ret, blockS_exit, blockS_goto, loopS_exit, loopS_ret, plainS_some, drawS_some, fpsOk, disj, unord, mem, range', dropTo, enumT, undef, wrap_i64_id, Value.cells, mkCells, ptrTo, scal, cellsAt, rdN, endS_ret, resultsA, Option.bind_some, tupV, finish, reach, reachN, dep, ptrL_eq, ptrL, renL_eq, renL, ptrV_bool, ptrV_int, ptrV_string, ptrV_nilFunc, ptrV_nilIface, ptrV_nilPtr, ptrV_ptr, ptrV_nilSl, ptrV_sl, ptrV_iface, ptrV_agg, ptrV_tuple, ptrV_func, renV_bool, renV_int, renV_string, renV_nilFunc, renV_nilIface, renV_nilPtr, renV_ptr, renV_nilSl, renV_sl, renV_iface, renV_agg, renV_tuple, renV_func, o_fieldAddr fa_24_2 (by decide), loadA_eq ia_3, o_fieldAddr fa_24_3 (by decide), loadA_eq ia_22, o_fieldAddr fa_24_0 (by decide), o_indexAddrS es_22, loadA_eq ia_31, o_fieldAddr fa_31_2 (by decide), o_fieldAddr fa_31_3 (by decide), o_fieldAddr fa_31_0 (by decide), o_fieldAddr fa_24_1 (by decide), lenA_sl lk_22, loadA_eq ia_24, o_fieldAddr fa_31_1 (by decide), za_31, sz_31, o_fieldAddr fa_35_0 (by decide), o_fieldAddr fa_35_1 (by decide), o_fieldAddr fa_35_2 (by decide), o_fieldAddr fa_35_3 (by decide), za_3, sz_3, loadA_eq ia_35, za_103, o_build za_103 pl_103, o_indexAddrS es_104, ze_104, o_buildSlice es_104 ze_104 (by decide) ba_104_4, lenA_sl lk_104, loadA_eq ia_103, sz_103, o_fieldAddr fa_103_2 (by decide), o_fieldAddr fa_103_0 (by decide), o_fieldAddr fa_103_1 (by decide), o_fieldAddr fa_38_0 (by decide), o_fieldAddr fa_38_1 (by decide), o_fieldAddr fa_38_2 (by decide), o_fieldAddr fa_38_3 (by decide), loadA_eq ia_38, za_89, o_build za_89 pl_89, za_90, sz_90, za_79, sz_79, loadA_eq ia_79, za_35, o_build za_35 pl_35, loadA_eq ia_90, o_fieldAddr fa_89_1 (by decide), o_indexAddrA ea_87, o_indexAddrA ea_86, loadA_eq ia_85, o_fieldAddr fa_89_0 (by decide), o_indexAddrA ea_83, o_indexAddrA ea_82, lenA_sl lk_101, o_indexAddrS es_101, sz_35, sz_85, o_mkI ii_93, ze_101, o_buildSlice es_101 ze_101 (by decide) ba_101_1, ap_101, builtin_append ni_101, o_mkI ii_94, o_index ix_83, o_index ix_82, za_83, loadA_eq ia_83, sz_83, sweep, ptrT, renT, optAll, renB_flat, renB_non, ptrB_flat, ptrB_non, idx, ptrB_plan, renB_plan]
/-- a pass that cuts -/
theorem pass29 (F : Fld Wf HH o off n cs nd) {x y w h : Nat} (hw : 1 ≤ w ∧ w ≤ 8) (hh : 1 ≤ h ∧ h ≤ 8) (hx : x + w + 1 ≤ Wf) (hy : y + h + 1 ≤ HH) (q : Ln) (hB : (planL S)[81 + w * 9 + h]? = some (lv q)) (hq : if q.1 then 1 ≤ q.2 ∧ q.2 < w else 1 ≤ q.2 ∧ q.2 < h) (r : Int) (hr : -1000 ≤ r ∧ r ≤ 1000) :
    ∃ σ' b5 b6, keepT [8, 3, 5, 4, 2, 4, 5, 6] σ' = s29 (r + ndl w h q) ∧ codeB Try.prog LL ⟨29, 63, 1, none⟩ n29_24 ⟨s29 r, h29 Wf HH o off n c cs own S x y w h, []⟩ =
      some (.goto 0, ⟨σ', (if indx (gr Wf nd) x y (one w h q).1 (one w h q).2 = 0 then (if q.1 then h29 Wf HH o off n c cs own S (x + q.2) y (w - q.2 : Nat) h else h29 Wf HH o off n c cs own S x (y + q.2) w (h - q.2 : Nat)) else h29 Wf HH o off n c cs own S x y (one w h q).1 (one w h q).2) ++ [b5, b6], []⟩) := by
  have hwf := F.hw; have hhf := F.hh
  obtain ⟨tag, m⟩ := q
  have wi : (w : Int) < 9 := by omega
  have hi : (h : Int) < 9 := by omega
  cases tag with
  | true =>
    simp only [if_true] at hq
    obtain ⟨m1, m2⟩ := hq
    have eW : (w : Int) - m = ((w - m : Nat) : Int) := by omega
    have kp := fun hp => k73 m x y w h hp (by unfold small; omega) (by unfold small; omega) (by unfold small; omega)
    rw [eW] at kp
    have kn := fun hp => k72 m x y w h hp (by unfold small; omega)
    have ki := fun rest : List Blk => k44 (own := own) c 0 (h := .cells cs 1 true own :: rest) F rfl (X := x) (Y := y) (W := m) (H := h) (by omega) (by omega) (by omega) (by omega)
    simp only [one, ndl, if_true]
    simp only [lv_t] at hB
    by_cases h0 : indx (gr Wf nd) x y m h = 0
    · rw [h0] at ki
      simp only [h0, if_true]
      simp only [s29, h29, planB]
      refine ⟨_, _, _, ?_, by
        simp (disch := first | omega | decide | assumption | simp [scal]) [runOps_nil, runOps_cons, runOpsF_nil, runOpsF_cons, fstS_some, fstF_some, opStep_eq, want_none, oStep_true, oStep_false, fin_pure, fin_read, fin_alloc, fin_write, storeB, wrN, cellV, addWr, o_move, o_assign, o_pick, o_alloc, o_box, o_load, o_store, o_nilCheck, o_bin, o_un, o_extract, o_callV, o_callB, o_callI, callV_f, callV_y, callV_fc, o_makeFunc, partsA, Instr.fill, builtin_len, builtin_max2, bin_add, bin_sub, bin_mul, bin_quo, bin_rem, bin_lss, bin_leq, bin_gtr, bin_geq, bin_eql, bin_neq, un_neg, un_not, opd, opds, optAll, lk, putO, put, has, rep, nbeq, nblt, constOk, isC, ops, sub, cl, cr, co, bodyOf, thenS_normal, thenS_ret, thenS_exit, thenS_goto, afterN_normal, afterN_ret, afterN_exit, afterN_goto, condS_true, condS_false, blockS_normal, blockS_ret, blockS_exit, blockS_goto, loopS_exit, loopS_ret, plainS_some, drawS_some, fpsOk, disj, unord, mem, range', dropTo, enumT, undef, wrap_i64_id, Value.cells, mkCells, ptrTo, scal, cellsAt, rdN, endS_ret, resultsA, Option.bind_some, tupV, finish, reach, reachN, dep, ptrL_eq, ptrL, renL_eq, renL, ptrV_bool, ptrV_int, ptrV_string, ptrV_nilFunc, ptrV_nilIface, ptrV_nilPtr, ptrV_ptr, ptrV_nilSl, ptrV_sl, ptrV_iface, ptrV_agg, ptrV_tuple, ptrV_func, renV_bool, renV_int, renV_string, renV_nilFunc, renV_nilIface, renV_nilPtr, renV_ptr, renV_nilSl, renV_sl, renV_iface, renV_agg, renV_tuple, renV_func, za_35, loadA_eq ia_24, loadA_eq ia_35, o_build za_35 pl_35, sz_35, o_fieldAddr fa_35_2 (by decide), loadA_eq ia_3, o_fieldAddr fa_35_3 (by decide), o_fieldAddr fa_89_1 (by decide), o_indexAddrA ea_87, o_indexAddrA ea_86, loadA_eq ia_85, n29_1s, n29_4s, n29_8s, n29_11s, n29_12s, n29_10s, n29_14s, n29_17s, n29_18s, n29_16s, n29_19s, n29_15s, n29_13s, n29_9s, n29_7s, n29_6s, n29_21s, n29_23s, n29_25s, n29_28s, n29_31s, n29_32s, n29_30s, n29_33s, n29_29s, n29_27s, n29_35s, n29_37s, n29_39s, n29_42s, n29_44s, n29_45s, n29_43s, n29_41s, n29_46s, n29_40s, n29_38s, n29_36s, n29_34s, n29_26s, n29_24s, n29_22s, n29_20s, n29_5s, n29_3s, n29_0s, Try.f29, hB, wi, hi, m93n, m93p, m94n, m94p, kp, kn, ki, eqlI1, h0]
        exact ⟨rfl, rfl, rfl⟩⟩
      simp [keepT, mem, nbeq]
    · simp only [h0, if_false]
      generalize indx (gr Wf nd) x y m h = i0 at *
      simp only [s29, h29, planB]
      refine ⟨_, _, _, ?_, by
        simp (disch := first | omega | decide | assumption | simp [scal]) [runOps_nil, runOps_cons, runOpsF_nil, runOpsF_cons, fstS_some, fstF_some, opStep_eq, want_none, oStep_true, oStep_false, fin_pure, fin_read, fin_alloc, fin_write, storeB, wrN, cellV, addWr, o_move, o_assign, o_pick, o_alloc, o_box, o_load, o_store, o_nilCheck, o_bin, o_un, o_extract, o_callV, o_callB, o_callI, callV_f, callV_y, callV_fc, o_makeFunc, partsA, Instr.fill, builtin_len, builtin_max2, bin_add, bin_sub, bin_mul, bin_quo, bin_rem, bin_lss, bin_leq, bin_gtr, bin_geq, bin_eql, bin_neq, un_neg, un_not, opd, opds, optAll, lk, putO, put, has, rep, nbeq, nblt, constOk, isC, ops, sub, cl, cr, co, bodyOf, thenS_normal, thenS_ret, thenS_exit, thenS_goto, afterN_normal, afterN_ret, afterN_exit, afterN_goto, condS_true, condS_false, blockS_normal, blockS_ret, blockS_exit, blockS_goto, loopS_exit, loopS_ret, plainS_some, drawS_some, fpsOk, disj, unord, mem, range', dropTo, enumT, undef, wrap_i64_id, Value.cells, mkCells, ptrTo, scal, cellsAt, rdN, endS_ret, resultsA, Option.bind_some, tupV, finish, reach, reachN, dep, ptrL_eq, ptrL, renL_eq, renL, ptrV_bool, ptrV_int, ptrV_string, ptrV_nilFunc, ptrV_nilIface, ptrV_nilPtr, ptrV_ptr, ptrV_nilSl, ptrV_sl, ptrV_iface, ptrV_agg, ptrV_tuple, ptrV_func, renV_bool, renV_int, renV_string, renV_nilFunc, renV_nilIface, renV_nilPtr, renV_ptr, renV_nilSl, renV_sl, renV_iface, renV_agg, renV_tuple, renV_func, za_35, loadA_eq ia_24, loadA_eq ia_35, o_build za_35 pl_35, sz_35, o_fieldAddr fa_35_2 (by decide), loadA_eq ia_3, o_fieldAddr fa_35_3 (by decide), o_fieldAddr fa_89_1 (by decide), o_indexAddrA ea_87, o_indexAddrA ea_86, loadA_eq ia_85, n29_1s, n29_4s, n29_8s, n29_11s, n29_12s, n29_10s, n29_14s, n29_17s, n29_18s, n29_16s, n29_19s, n29_15s, n29_13s, n29_9s, n29_7s, n29_6s, n29_21s, n29_23s, n29_25s, n29_28s, n29_31s, n29_32s, n29_30s, n29_33s, n29_29s, n29_27s, n29_35s, n29_37s, n29_39s, n29_42s, n29_44s, n29_45s, n29_43s, n29_41s, n29_46s, n29_40s, n29_38s, n29_36s, n29_34s, n29_26s, n29_24s, n29_22s, n29_20s, n29_5s, n29_3s, n29_0s, Try.f29, hB, wi, hi, m93n, m93p, m94n, m94p, kp, kn, ki, eqlI1, h0]
        exact ⟨rfl, rfl, rfl⟩⟩
      simp [keepT, mem, nbeq]
  | false =>
    simp only [Bool.false_eq_true, if_false] at hq
    obtain ⟨m1, m2⟩ := hq
    have eW : (h : Int) - m = ((h - m : Nat) : Int) := by omega
    have kp := fun hp => k75 m x y w h hp (by unfold small; omega) (by unfold small; omega) (by unfold small; omega)
    rw [eW] at kp
    have kn := fun hp => k74 m x y w h hp (by unfold small; omega)
    have ki := fun rest : List Blk => k44 (own := own) c 0 (h := .cells cs 1 true own :: rest) F rfl (X := x) (Y := y) (W := w) (H := m) (by omega) (by omega) (by omega) (by omega)
    simp only [one, ndl, Bool.false_eq_true, if_false]
    simp only [lv_f] at hB
    by_cases h0 : indx (gr Wf nd) x y w m = 0
    · rw [h0] at ki
      simp only [h0, if_true]
      simp only [s29, h29, planB]
      refine ⟨_, _, _, ?_, by
        simp (disch := first | omega | decide | assumption | simp [scal]) [runOps_nil, runOps_cons, runOpsF_nil, runOpsF_cons, fstS_some, fstF_some, opStep_eq, want_none, oStep_true, oStep_false, fin_pure, fin_read, fin_alloc, fin_write, storeB, wrN, cellV, addWr, o_move, o_assign, o_pick, o_alloc, o_box, o_load, o_store, o_nilCheck, o_bin, o_un, o_extract, o_callV, o_callB, o_callI, callV_f, callV_y, callV_fc, o_makeFunc, partsA, Instr.fill, builtin_len, builtin_max2, bin_add, bin_sub, bin_mul, bin_quo, bin_rem, bin_lss, bin_leq, bin_gtr, bin_geq, bin_eql, bin_neq, un_neg, un_not, opd, opds, optAll, lk, putO, put, has, rep, nbeq, nblt, constOk, isC, ops, sub, cl, cr, co, bodyOf, thenS_normal, thenS_ret, thenS_exit, thenS_goto, afterN_normal, afterN_ret, afterN_exit, afterN_goto, condS_true, condS_false, blockS_normal, blockS_ret, blockS_exit, blockS_goto, loopS_exit, loopS_ret, plainS_some, drawS_some, fpsOk, disj, unord, mem, range', dropTo, enumT, undef, wrap_i64_id, Value.cells, mkCells, ptrTo, scal, cellsAt, rdN, endS_ret, resultsA, Option.bind_some, tupV, finish, reach, reachN, dep, ptrL_eq, ptrL, renL_eq, renL, ptrV_bool, ptrV_int, ptrV_string, ptrV_nilFunc, ptrV_nilIface, ptrV_nilPtr, ptrV_ptr, ptrV_nilSl, ptrV_sl, ptrV_iface, ptrV_agg, ptrV_tuple, ptrV_func, renV_bool, renV_int, renV_string, renV_nilFunc, renV_nilIface, renV_nilPtr, renV_ptr, renV_nilSl, renV_sl, renV_iface, renV_agg, renV_tuple, renV_func, za_35, loadA_eq ia_24, loadA_eq ia_35, o_build za_35 pl_35, sz_35, o_fieldAddr fa_35_2 (by decide), loadA_eq ia_3, o_fieldAddr fa_35_3 (by decide), o_fieldAddr fa_89_1 (by decide), o_indexAddrA ea_87, o_indexAddrA ea_86, loadA_eq ia_85, n29_1s, n29_4s, n29_8s, n29_11s, n29_12s, n29_10s, n29_14s, n29_17s, n29_18s, n29_16s, n29_19s, n29_15s, n29_13s, n29_9s, n29_7s, n29_6s, n29_21s, n29_23s, n29_25s, n29_28s, n29_31s, n29_32s, n29_30s, n29_33s, n29_29s, n29_27s, n29_35s, n29_37s, n29_39s, n29_42s, n29_44s, n29_45s, n29_43s, n29_41s, n29_46s, n29_40s, n29_38s, n29_36s, n29_34s, n29_26s, n29_24s, n29_22s, n29_20s, n29_5s, n29_3s, n29_0s, Try.f29, hB, wi, hi, m93n, m93p, m94n, m94p, kp, kn, ki, eqlI1, h0]
        exact ⟨rfl, rfl, rfl⟩⟩
      simp [keepT, mem, nbeq]
    · simp only [h0, if_false]
      generalize indx (gr Wf nd) x y w m = i0 at *
      simp only [s29, h29, planB]
      refine ⟨_, _, _, ?_, by
        simp (disch := first | omega | decide | assumption | simp [scal]) [runOps_nil, runOps_cons, runOpsF_nil, runOpsF_cons, fstS_some, fstF_some, opStep_eq, want_none, oStep_true, oStep_false, fin_pure, fin_read, fin_alloc, fin_write, storeB, wrN, cellV, addWr, o_move, o_assign, o_pick, o_alloc, o_box, o_load, o_store, o_nilCheck, o_bin, o_un, o_extract, o_callV, o_callB, o_callI, callV_f, callV_y, callV_fc, o_makeFunc, partsA, Instr.fill, builtin_len, builtin_max2, bin_add, bin_sub, bin_mul, bin_quo, bin_rem, bin_lss, bin_leq, bin_gtr, bin_geq, bin_eql, bin_neq, un_neg, un_not, opd, opds, optAll, lk, putO, put, has, rep, nbeq, nblt, constOk, isC, ops, sub, cl, cr, co, bodyOf, thenS_normal, thenS_ret, thenS_exit, thenS_goto, afterN_normal, afterN_ret, afterN_exit, afterN_goto, condS_true, condS_false, blockS_normal, blockS_ret, blockS_exit, blockS_goto, loopS_exit, loopS_ret, plainS_some, drawS_some, fpsOk, disj, unord, mem, range', dropTo, enumT, undef, wrap_i64_id, Value.cells, mkCells, ptrTo, scal, cellsAt, rdN, endS_ret, resultsA, Option.bind_some, tupV, finish, reach, reachN, dep, ptrL_eq, ptrL, renL_eq, renL, ptrV_bool, ptrV_int, ptrV_string, ptrV_nilFunc, ptrV_nilIface, ptrV_nilPtr, ptrV_ptr, ptrV_nilSl, ptrV_sl, ptrV_iface, ptrV_agg, ptrV_tuple, ptrV_func, renV_bool, renV_int, renV_string, renV_nilFunc, renV_nilIface, renV_nilPtr, renV_ptr, renV_nilSl, renV_sl, renV_iface, renV_agg, renV_tuple, renV_func, za_35, loadA_eq ia_24, loadA_eq ia_35, o_build za_35 pl_35, sz_35, o_fieldAddr fa_35_2 (by decide), loadA_eq ia_3, o_fieldAddr fa_35_3 (by decide), o_fieldAddr fa_89_1 (by decide), o_indexAddrA ea_87, o_indexAddrA ea_86, loadA_eq ia_85, n29_1s, n29_4s, n29_8s, n29_11s, n29_12s, n29_10s, n29_14s, n29_17s, n29_18s, n29_16s, n29_19s, n29_15s, n29_13s, n29_9s, n29_7s, n29_6s, n29_21s, n29_23s, n29_25s, n29_28s, n29_31s, n29_32s, n29_30s, n29_33s, n29_29s, n29_27s, n29_35s, n29_37s, n29_39s, n29_42s, n29_44s, n29_45s, n29_43s, n29_41s, n29_46s, n29_40s, n29_38s, n29_36s, n29_34s, n29_26s, n29_24s, n29_22s, n29_20s, n29_5s, n29_3s, n29_0s, Try.f29, hB, wi, hi, m93n, m93p, m94n, m94p, kp, kn, ki, eqlI1, h0]
        exact ⟨rfl, rfl, rfl⟩⟩
      simp [keepT, mem, nbeq]
/-- a pass that ends -/
theorem last29 {x y w h : Nat} (hw : w < 9) (hh : h < 9) (hB : (planL S)[81 + w * 9 + h]? = some .nilIface) (r : Int) :
    ∃ st', codeB Try.prog LL ⟨29, 63, 1, none⟩ n29_24 ⟨s29 r, h29 Wf HH o off n c cs own S x y w h, []⟩ = some (.ret, st') ∧ endS Try.prog [.cell 4 35, .tmp 5, .tmp 6] 1 (some (.ret, st')) = some ⟨.tuple #[bv x y w h, iv r, iv 0], [], []⟩ := by
  have wi : (w : Int) < 9 := by omega
  have hi : (h : Int) < 9 := by omega
  simp only [s29, h29, planB]
  refine ⟨_, by
    simp (disch := first | omega | decide | assumption | simp [scal]) [runOps_nil, runOps_cons, runOpsF_nil, runOpsF_cons, fstS_some, fstF_some, opStep_eq, want_none, oStep_true, oStep_false, fin_pure, fin_read, fin_alloc, fin_write, storeB, wrN, cellV, addWr, o_move, o_assign, o_pick, o_alloc, o_box, o_load, o_store, o_nilCheck, o_bin, o_un, o_extract, o_callV, o_callB, o_callI, callV_f, callV_y, callV_fc, o_makeFunc, partsA, Instr.fill, builtin_len, builtin_max2, bin_add, bin_sub, bin_mul, bin_quo, bin_rem, bin_lss, bin_leq, bin_gtr, bin_geq, bin_eql, bin_neq, un_neg, un_not, opd, opds, optAll, lk, putO, put, has, rep, nbeq, nblt, constOk, isC, ops, sub, cl, cr, co, bodyOf, thenS_normal, thenS_ret, thenS_exit, thenS_goto, afterN_normal, afterN_ret, afterN_exit, afterN_goto, condS_true, condS_false, blockS_normal, blockS_ret, blockS_exit, blockS_goto, loopS_exit, loopS_ret, plainS_some, drawS_some, fpsOk, disj, unord, mem, range', dropTo, enumT, undef, wrap_i64_id, Value.cells, mkCells, ptrTo, scal, cellsAt, rdN, endS_ret, resultsA, Option.bind_some, tupV, finish, reach, reachN, dep, ptrL_eq, ptrL, renL_eq, renL, ptrV_bool, ptrV_int, ptrV_string, ptrV_nilFunc, ptrV_nilIface, ptrV_nilPtr, ptrV_ptr, ptrV_nilSl, ptrV_sl, ptrV_iface, ptrV_agg, ptrV_tuple, ptrV_func, renV_bool, renV_int, renV_string, renV_nilFunc, renV_nilIface, renV_nilPtr, renV_ptr, renV_nilSl, renV_sl, renV_iface, renV_agg, renV_tuple, renV_func, za_35, loadA_eq ia_24, loadA_eq ia_35, o_build za_35 pl_35, sz_35, o_fieldAddr fa_35_2 (by decide), loadA_eq ia_3, o_fieldAddr fa_35_3 (by decide), o_fieldAddr fa_89_1 (by decide), o_indexAddrA ea_87, o_indexAddrA ea_86, loadA_eq ia_85, n29_1s, n29_4s, n29_8s, n29_11s, n29_12s, n29_10s, n29_14s, n29_17s, n29_18s, n29_16s, n29_19s, n29_15s, n29_13s, n29_9s, n29_7s, n29_6s, n29_21s, n29_23s, n29_25s, n29_28s, n29_31s, n29_32s, n29_30s, n29_33s, n29_29s, n29_27s, n29_35s, n29_37s, n29_39s, n29_42s, n29_44s, n29_45s, n29_43s, n29_41s, n29_46s, n29_40s, n29_38s, n29_36s, n29_34s, n29_26s, n29_24s, n29_22s, n29_20s, n29_5s, n29_3s, n29_0s, Try.f29, hB, wi, hi, eqlI0]
    rfl, ?_⟩
  simp (disch := first | omega | decide | assumption | simp [scal]) [runOps_nil, runOps_cons, runOpsF_nil, runOpsF_cons, fstS_some, fstF_some, opStep_eq, want_none, oStep_true, oStep_false, fin_pure, fin_read, fin_alloc, fin_write, storeB, wrN, cellV, addWr, o_move, o_assign, o_pick, o_alloc, o_box, o_load, o_store, o_nilCheck, o_bin, o_un, o_extract, o_callV, o_callB, o_callI, callV_f, callV_y, callV_fc, o_makeFunc, partsA, Instr.fill, builtin_len, builtin_max2, bin_add, bin_sub, bin_mul, bin_quo, bin_rem, bin_lss, bin_leq, bin_gtr, bin_geq, bin_eql, bin_neq, un_neg, un_not, opd, opds, optAll, lk, putO, put, has, rep, nbeq, nblt, constOk, isC, ops, sub, cl, cr, co, bodyOf, thenS_normal, thenS_ret, thenS_exit, thenS_goto, afterN_normal, afterN_ret, afterN_exit, afterN_goto, condS_true, condS_false, blockS_normal, blockS_ret, blockS_exit, blockS_goto, loopS_exit, loopS_ret, plainS_some, drawS_some, fpsOk, disj, unord, mem, range', dropTo, enumT, undef, wrap_i64_id, Value.cells, mkCells, ptrTo, scal, cellsAt, rdN, endS_ret, resultsA, Option.bind_some, tupV, finish, reach, reachN, dep, ptrL_eq, ptrL, renL_eq, renL, ptrV_bool, ptrV_int, ptrV_string, ptrV_nilFunc, ptrV_nilIface, ptrV_nilPtr, ptrV_ptr, ptrV_nilSl, ptrV_sl, ptrV_iface, ptrV_agg, ptrV_tuple, ptrV_func, renV_bool, renV_int, renV_string, renV_nilFunc, renV_nilIface, renV_nilPtr, renV_ptr, renV_nilSl, renV_sl, renV_iface, renV_agg, renV_tuple, renV_func, o_fieldAddr fa_24_2 (by decide), loadA_eq ia_3, o_fieldAddr fa_24_3 (by decide), loadA_eq ia_22, o_fieldAddr fa_24_0 (by decide), o_indexAddrS es_22, loadA_eq ia_31, o_fieldAddr fa_31_2 (by decide), o_fieldAddr fa_31_3 (by decide), o_fieldAddr fa_31_0 (by decide), o_fieldAddr fa_24_1 (by decide), lenA_sl lk_22, loadA_eq ia_24, o_fieldAddr fa_31_1 (by decide), za_31, sz_31, o_fieldAddr fa_35_0 (by decide), o_fieldAddr fa_35_1 (by decide), o_fieldAddr fa_35_2 (by decide), o_fieldAddr fa_35_3 (by decide), za_3, sz_3, loadA_eq ia_35, za_103, o_build za_103 pl_103, o_indexAddrS es_104, ze_104, o_buildSlice es_104 ze_104 (by decide) ba_104_4, lenA_sl lk_104, loadA_eq ia_103, sz_103, o_fieldAddr fa_103_2 (by decide), o_fieldAddr fa_103_0 (by decide), o_fieldAddr fa_103_1 (by decide), o_fieldAddr fa_38_0 (by decide), o_fieldAddr fa_38_1 (by decide), o_fieldAddr fa_38_2 (by decide), o_fieldAddr fa_38_3 (by decide), loadA_eq ia_38, za_89, o_build za_89 pl_89, za_90, sz_90, za_79, sz_79, loadA_eq ia_79, za_35, o_build za_35 pl_35, loadA_eq ia_90, o_fieldAddr fa_89_1 (by decide), o_indexAddrA ea_87, o_indexAddrA ea_86, loadA_eq ia_85, o_fieldAddr fa_89_0 (by decide), o_indexAddrA ea_83, o_indexAddrA ea_82, lenA_sl lk_101, o_indexAddrS es_101, sz_35, sz_85, o_mkI ii_93, ze_101, o_buildSlice es_101 ze_101 (by decide) ba_101_1, ap_101, builtin_append ni_101, o_mkI ii_94, o_index ix_83, o_index ix_82, za_83, loadA_eq ia_83, sz_83, optAll]
end
end Go.Proofs.Ytgpcjdhlijompaa.ore

namespace Go.Proofs.Ytgpcjdhlijompaa.ore
open Go.GE
set_option linter.unusedVariables false
set_option linter.unusedSimpArgs false
set_option maxRecDepth 100000
section
variable (Wf HH : Nat) (o : Int) (off n c : Nat) (cs : List Value) (own : Bool) (nd : Nat → Int) (S : Sz)
/-- what a search answers -/
def Fnd (g : Nat → Nat → Int) (x y w h : Nat) (r : Int) (x' y' : Nat) (r' : Int) : Prop := (x ≤ x' ∧ x' < x + w) ∧ (y ≤ y' ∧ y' < y + h) ∧ indx g x' y' 1 1 ≠ 0 ∧ r ≤ r' ∧ r' ≤ r + tT w h
abbrev rs29 : List ResultVar := [.cell 4 35, .tmp 5, .tmp 6]
theorem loop29 (F : Fld Wf HH o off n cs nd) (G : Sure (gr Wf nd) Wf HH) (W0 H0 : Nat) (hW0 : W0 ≤ 8) (hH0 : H0 ≤ 8) (hS : ∀ w h, 1 ≤ w → w ≤ W0 → 1 ≤ h → h ≤ H0 → (planL S)[81 + w * 9 + h]? = some (wv (tB w h))) :
    ∀ N x y w h : Nat, ∀ r : Int, w + h ≤ N → 1 ≤ w → w ≤ W0 → 1 ≤ h → h ≤ H0 → x + w + 1 ≤ Wf → y + h + 1 ≤ HH → 0 ≤ r → r + tT w h ≤ 1000 → indx (gr Wf nd) x y w h ≠ 0 →
    ∃ x' y' r' st', Fnd (gr Wf nd) x y w h r x' y' r' ∧ codeS Try.prog LL ⟨29, 63, 1, none⟩ n29_3 (.seq .skip n29_24) ⟨s29 r, h29 Wf HH o off n c cs own S x y w h, []⟩ = some (.ret, st') ∧
      endS Try.prog rs29 1 (some (.ret, st')) = some ⟨.tuple #[bv x' y' ((1 : Nat) : Int) ((1 : Nat) : Int), iv r', iv 0], [], []⟩ := by
  intro N
  induction N with
  | zero => intro x y w h r h1 h2; omega
  | succ N ih =>
    intro x y w h r hN w1 w2 h1 h2 hx hy hr0 hr hne
    have hwf := F.hw; have hhf := F.hh
    have hB := hS w h w1 w2 h1 h2
    cases hq : tB w h with
    | none =>
      have h11 := (best_T (W := w) (H := h) (by omega) (by omega) w1 h1).2.1 hq
      obtain ⟨rfl, rfl⟩ := h11
      rw [hq] at hB
      obtain ⟨st', e1, e2⟩ := last29 Wf HH o off n c cs own S (x := x) (y := y) (w := 1) (h := 1) (by omega) (by omega) hB r
      have t0 := tT_b 1 1
      refine ⟨x, y, r, st', ⟨⟨by omega, by omega⟩, ⟨by omega, by omega⟩, hne, by omega, by omega⟩, ?_, e2⟩
      exact codeS_ret (by rw [skip_seq]; exact e1)
    | some q =>
      rw [hq] at hB
      obtain ⟨q1, q2, q3⟩ := best_q (W := w) (H := h) (by omega) (by omega) w1 h1 hq
      have hqq : if q.1 then 1 ≤ q.2 ∧ q.2 < w else 1 ≤ q.2 ∧ q.2 < h := by
        cases hq1 : q.1 with
        | true => rw [hq1] at q2; simp only [if_true] at q2 ⊢; exact ⟨q1, q2⟩
        | false => rw [hq1] at q2; simp only [Bool.false_eq_true, if_false] at q2 ⊢; exact ⟨q1, q2⟩
      have tb := tT_b w h
      obtain ⟨σ', b5, b6, k1, k2⟩ := pass29 Wf HH o off n c cs own nd S F (x := x) (y := y) (w := w) (h := h) ⟨w1, by omega⟩ ⟨h1, by omega⟩ hx hy q hB hqq r (by omega)
      -- the next block
      have next : ∃ x1 y1 w1' h1' : Nat, (if indx (gr Wf nd) x y (one w h q).1 (one w h q).2 = 0 then (if q.1 then h29 Wf HH o off n c cs own S (x + q.2) y (w - q.2 : Nat) h else h29 Wf HH o off n c cs own S x (y + q.2) w (h - q.2 : Nat)) else h29 Wf HH o off n c cs own S x y (one w h q).1 (one w h q).2) = h29 Wf HH o off n c cs own S x1 y1 w1' h1' ∧
          w1' + h1' < w + h ∧ 1 ≤ w1' ∧ w1' ≤ w ∧ 1 ≤ h1' ∧ h1' ≤ h ∧ x ≤ x1 ∧ x1 + w1' ≤ x + w ∧ y ≤ y1 ∧ y1 + h1' ≤ y + h ∧ indx (gr Wf nd) x1 y1 w1' h1' ≠ 0 ∧ 0 ≤ ndl w h q ∧ ndl w h q + tT w1' h1' ≤ tT w h := by
        obtain ⟨tag, m⟩ := q
        cases tag with
        | true =>
          simp only [if_true] at hqq ⊢
          have ha := indx_up (n := m) G hx hy (by omega)
          simp only [cst, ndl, one, two, if_true] at q3 ⊢
          by_cases h0 : indx (gr Wf nd) x y m h = 0
          · rw [if_pos h0]
            refine ⟨x + m, y, w - m, h, by rw [Int.natCast_add], by omega, by omega, by omega, by omega, by omega, by omega, by omega, by omega, by omega, ?_, by omega, ?_⟩
            · intro h9; apply hne; rw [ha, h0, h9]; rfl
            · rw [← q3]; omega
          · rw [if_neg h0]
            exact ⟨x, y, m, h, rfl, by omega, by omega, by omega, by omega, by omega, by omega, by omega, by omega, by omega, h0, by omega, by rw [← q3]; omega⟩
        | false =>
          simp only [Bool.false_eq_true, if_false] at hqq ⊢
          have ha := indx_lev (n := m) G hx hy (by omega)
          simp only [cst, ndl, one, two, Bool.false_eq_true, if_false] at q3 ⊢
          by_cases h0 : indx (gr Wf nd) x y w m = 0
          · rw [if_pos h0]
            refine ⟨x, y + m, w, h - m, by rw [Int.natCast_add], by omega, by omega, by omega, by omega, by omega, by omega, by omega, by omega, by omega, ?_, by omega, ?_⟩
            · intro h9; apply hne; rw [ha, h0, h9]; rfl
            · rw [← q3]; omega
          · rw [if_neg h0]
            exact ⟨x, y, w, m, rfl, by omega, by omega, by omega, by omega, by omega, by omega, by omega, by omega, by omega, h0, by omega, by rw [← q3]; omega⟩
      obtain ⟨x1, y1, w1', h1', g1, g2, g3, g4, g5, g6, g7, g8, g9, g10, g11, g12, g13⟩ := next
      rw [g1] at k2
      obtain ⟨x', y', r', st', f1, f2, f3⟩ := ih x1 y1 w1' h1' (r + ndl w h q) (by omega) g3 (by omega) g5 (by omega) (by omega) (by omega) (by omega) (by omega) g11
      refine ⟨x', y', r', st', ?_, ?_, f3⟩
      · obtain ⟨⟨a1, a2⟩, ⟨a3, a4⟩, a5, a6, a7⟩ := f1
        exact ⟨⟨by omega, by omega⟩, ⟨by omega, by omega⟩, a5, by omega, by omega⟩
      · rw [codeS_goto (by rw [skip_seq]; exact k2) fl29 ks29 (by rw [k1]; exact sw29 Wf HH o off n c cs own S x1 y1 w1' h1' _ b5 b6)]
        exact L_scp f2
end
end Go.Proofs.Ytgpcjdhlijompaa.ore

namespace Go.Proofs.Ytgpcjdhlijompaa.ore
open Go.GE
set_option linter.unusedVariables false
set_option linter.unusedSimpArgs false
set_option maxRecDepth 100000
section
variable (Wf HH : Nat) (o : Int) (off n c : Nat) (cs : List Value) (own : Bool) (nd : Nat → Int)
def z29 (w hh o : Int) (off n c : Nat) (X Y W H : Int) : Tm := [(6, iv 0), (5, iv 0), (4, .pointer (some ⟨3, 0, none⟩)), (3, .pointer (some ⟨2, 0, none⟩)), (2, .pointer (some ⟨1, 0, none⟩)), (0, fv w hh o 0 off n c), (1, bv X Y W H)]
def zk29 (r : Int) : Tm := [(8, .pointer (some ⟨4, 0, none⟩)), (6, iv 0), (5, iv r), (4, .pointer (some ⟨3, 0, none⟩)), (3, .pointer (some ⟨2, 0, none⟩)), (2, .pointer (some ⟨1, 0, none⟩))]
def g29 (S : Sz) (x y w h : Int) : List Blk := [.cells cs 1 true own, fb Wf HH o 0 off n c, bb x y w h, .cells [iv 0, iv 0, iv 0, iv 0] 1 true true, planB S]
theorem swz29 (S : Sz) (x y w h r : Int) (b5 b6 : Blk) : sweep 1 ⟨zk29 r, g29 Wf HH o off n c cs own S x y w h ++ [b5, b6], []⟩ = some ⟨s29 r, h29 Wf HH o off n c cs own S x y w h, []⟩ := by
  simp only [s29, h29, zk29, g29, bb, fb]
  simp (disch := first | omega | decide | assumption | simp [scal]) [runOps_nil, runOps_cons, runOpsF_nil, runOpsF_cons, fstS_some, fstF_some, opStep_eq, want_none, oStep_true, oStep_false, fin_pure, fin_read, fin_alloc, fin_write, storeB, wrN, cellV, addWr, o_move, o_assign, o_pick, o_alloc, o_box, o_load, o_store, o_nilCheck, o_bin, o_un, o_extract, o_callV, o_callB, o_callI, callV_f, callV_y, callV_fc, o_makeFunc, partsA, Instr.fill, builtin_len, builtin_max2, bin_add, bin_sub, bin_mul, bin_quo, bin_rem, bin_lss, bin_leq, bin_gtr, bin_geq, bin_eql, bin_neq, un_neg, un_not, opd, opds, optAll, lk, putO, put, has, rep, nbeq, nblt, constOk, isC, ops, sub, cl, cr, co, bodyOf, thenS_normal, thenS_ret, thenS_exit, thenS_goto, afterN_normal, afterN_ret, afterN_exit, afterN_goto, condS_true, condS_false, blockS_normal, blockS_ret, blockS_exit, blockS_goto, loopS_exit, loopS_ret, plainS_some, drawS_some, fpsOk, disj, unord, mem, range', dropTo, enumT, undef, wrap_i64_id, Value.cells, mkCells, ptrTo, scal, cellsAt, rdN, endS_ret, resultsA, Option.bind_some, tupV, finish, reach, reachN, dep, ptrL_eq, ptrL, renL_eq, renL, ptrV_bool, ptrV_int, ptrV_string, ptrV_nilFunc, ptrV_nilIface, ptrV_nilPtr, ptrV_ptr, ptrV_nilSl, ptrV_sl, ptrV_iface, ptrV_agg, ptrV_tuple, ptrV_func, renV_bool, renV_int, renV_string, renV_nilFunc, renV_nilIface, renV_nilPtr, renV_ptr, renV_nilSl, renV_sl, renV_iface, renV_agg, renV_tuple, renV_func, o_fieldAddr fa_24_2 (by decide), loadA_eq ia_3, o_fieldAddr fa_24_3 (by decide), loadA_eq ia_22, o_fieldAddr fa_24_0 (by decide), o_indexAddrS es_22, loadA_eq ia_31, o_fieldAddr fa_31_2 (by decide), o_fieldAddr fa_31_3 (by decide), o_fieldAddr fa_31_0 (by decide), o_fieldAddr fa_24_1 (by decide), lenA_sl lk_22, loadA_eq ia_24, o_fieldAddr fa_31_1 (by decide), za_31, sz_31, o_fieldAddr fa_35_0 (by decide), o_fieldAddr fa_35_1 (by decide), o_fieldAddr fa_35_2 (by decide), o_fieldAddr fa_35_3 (by decide), za_3, sz_3, loadA_eq ia_35, za_103, o_build za_103 pl_103, o_indexAddrS es_104, ze_104, o_buildSlice es_104 ze_104 (by decide) ba_104_4, lenA_sl lk_104, loadA_eq ia_103, sz_103, o_fieldAddr fa_103_2 (by decide), o_fieldAddr fa_103_0 (by decide), o_fieldAddr fa_103_1 (by decide), o_fieldAddr fa_38_0 (by decide), o_fieldAddr fa_38_1 (by decide), o_fieldAddr fa_38_2 (by decide), o_fieldAddr fa_38_3 (by decide), loadA_eq ia_38, za_89, o_build za_89 pl_89, za_90, sz_90, za_79, sz_79, loadA_eq ia_79, za_35, o_build za_35 pl_35, loadA_eq ia_90, o_fieldAddr fa_89_1 (by decide), o_indexAddrA ea_87, o_indexAddrA ea_86, loadA_eq ia_85, o_fieldAddr fa_89_0 (by decide), o_indexAddrA ea_83, o_indexAddrA ea_82, lenA_sl lk_101, o_indexAddrS es_101, sz_35, sz_85, o_mkI ii_93, ze_101, o_buildSlice es_101 ze_101 (by decide) ba_101_1, ap_101, builtin_append ni_101, o_mkI ii_94, o_index ix_83, o_index ix_82, za_83, loadA_eq ia_83, sz_83, sweep, ptrT, renT, optAll, renB_flat, renB_non, ptrB_flat, ptrB_non, idx, ptrB_plan, renB_plan]
theorem first29 (F : Fld Wf HH o off n cs nd) {x y w h : Nat} (hw : 1 ≤ w ∧ w ≤ 8) (hh : 1 ≤ h ∧ h ≤ 8) (hx : x + w + 1 ≤ Wf) (hy : y + h + 1 ≤ HH) (q : Ln) (S : Sz) (hS : S = add S0 w h) (hB : (planL S)[81 + w * 9 + h]? = some (lv q)) (hq : if q.1 then 1 ≤ q.2 ∧ q.2 < w else 1 ≤ q.2 ∧ q.2 < h)
    (i0 : Int) (hi0 : ¬ i0 = 0) (kI : ∀ rest : List Blk, callH LL 20 [fv Wf HH o 0 off n c, bv x y w h] (.cells cs 1 true own :: rest) = some ⟨.tuple #[iv i0, iv 0], .cells cs 1 true own :: rest, [0], []⟩) :
    ∃ σ' b5 b6, keepT [8, 3, 5, 4, 2, 4, 5, 6] σ' = zk29 (ndl w h q) ∧ codeB Try.prog LL ⟨29, 63, 1, none⟩ n29_3 ⟨z29 Wf HH o off n c x y w h, [.cells cs 1 true own, fb Wf HH o 0 off n c, bb x y w h, .cells [iv 0, iv 0, iv 0, iv 0] 1 true true], []⟩ =
      some (.goto 0, ⟨σ', (if indx (gr Wf nd) x y (one w h q).1 (one w h q).2 = 0 then (if q.1 then g29 Wf HH o off n c cs own S (x + q.2) y (w - q.2 : Nat) h else g29 Wf HH o off n c cs own S x (y + q.2) w (h - q.2 : Nat)) else g29 Wf HH o off n c cs own S x y (one w h q).1 (one w h q).2) ++ [b5, b6], []⟩) := by
  have hwf := F.hw; have hhf := F.hh
  obtain ⟨tag, m⟩ := q
  have wi : (w : Int) < 9 := by omega
  have hi : (h : Int) < 9 := by omega
  have k8 := k48 w h hw hh
  rw [← hS] at k8
  cases tag with
  | true =>
    simp only [if_true] at hq
    obtain ⟨m1, m2⟩ := hq
    have eW : (w : Int) - m = ((w - m : Nat) : Int) := by omega
    have kp := fun hp => k73 m x y w h hp (by unfold small; omega) (by unfold small; omega) (by unfold small; omega)
    rw [eW] at kp
    have kn := fun hp => k72 m x y w h hp (by unfold small; omega)
    have ki := fun rest : List Blk => k44 (own := own) c 0 (h := .cells cs 1 true own :: rest) F rfl (X := x) (Y := y) (W := m) (H := h) (by omega) (by omega) (by omega) (by omega)
    simp only [one, ndl, if_true]
    simp only [lv_t] at hB
    by_cases h0 : indx (gr Wf nd) x y m h = 0
    · rw [h0] at ki
      simp only [h0, if_true]
      simp only [z29, g29, planB] at k8 ⊢
      refine ⟨_, _, _, ?_, by
        simp (disch := first | omega | decide | assumption | simp [scal]) [runOps_nil, runOps_cons, runOpsF_nil, runOpsF_cons, fstS_some, fstF_some, opStep_eq, want_none, oStep_true, oStep_false, fin_pure, fin_read, fin_alloc, fin_write, storeB, wrN, cellV, addWr, o_move, o_assign, o_pick, o_alloc, o_box, o_load, o_store, o_nilCheck, o_bin, o_un, o_extract, o_callV, o_callB, o_callI, callV_f, callV_y, callV_fc, o_makeFunc, partsA, Instr.fill, builtin_len, builtin_max2, bin_add, bin_sub, bin_mul, bin_quo, bin_rem, bin_lss, bin_leq, bin_gtr, bin_geq, bin_eql, bin_neq, un_neg, un_not, opd, opds, optAll, lk, putO, put, has, rep, nbeq, nblt, constOk, isC, ops, sub, cl, cr, co, bodyOf, thenS_normal, thenS_ret, thenS_exit, thenS_goto, afterN_normal, afterN_ret, afterN_exit, afterN_goto, condS_true, condS_false, blockS_normal, blockS_ret, blockS_exit, blockS_goto, loopS_exit, loopS_ret, plainS_some, drawS_some, fpsOk, disj, unord, mem, range', dropTo, enumT, undef, wrap_i64_id, Value.cells, mkCells, ptrTo, scal, cellsAt, rdN, endS_ret, resultsA, Option.bind_some, tupV, finish, reach, reachN, dep, ptrL_eq, ptrL, renL_eq, renL, ptrV_bool, ptrV_int, ptrV_string, ptrV_nilFunc, ptrV_nilIface, ptrV_nilPtr, ptrV_ptr, ptrV_nilSl, ptrV_sl, ptrV_iface, ptrV_agg, ptrV_tuple, ptrV_func, renV_bool, renV_int, renV_string, renV_nilFunc, renV_nilIface, renV_nilPtr, renV_ptr, renV_nilSl, renV_sl, renV_iface, renV_agg, renV_tuple, renV_func, za_35, loadA_eq ia_24, loadA_eq ia_35, o_build za_35 pl_35, sz_35, o_fieldAddr fa_35_2 (by decide), loadA_eq ia_3, o_fieldAddr fa_35_3 (by decide), o_fieldAddr fa_89_1 (by decide), o_indexAddrA ea_87, o_indexAddrA ea_86, loadA_eq ia_85, n29_1s, n29_4s, n29_8s, n29_11s, n29_12s, n29_10s, n29_14s, n29_17s, n29_18s, n29_16s, n29_19s, n29_15s, n29_13s, n29_9s, n29_7s, n29_6s, n29_21s, n29_23s, n29_25s, n29_28s, n29_31s, n29_32s, n29_30s, n29_33s, n29_29s, n29_27s, n29_35s, n29_37s, n29_39s, n29_42s, n29_44s, n29_45s, n29_43s, n29_41s, n29_46s, n29_40s, n29_38s, n29_36s, n29_34s, n29_26s, n29_24s, n29_22s, n29_20s, n29_5s, n29_3s, n29_0s, Try.f29, kI, hi0, k8, hB, wi, hi, m93n, m93p, m94n, m94p, kp, kn, ki, eqlI1, h0]
        exact ⟨rfl, rfl, rfl⟩⟩
      simp [keepT, mem, nbeq, zk29]
    · simp only [h0, if_false]
      generalize indx (gr Wf nd) x y m h = i1 at *
      simp only [z29, g29, planB] at k8 ⊢
      refine ⟨_, _, _, ?_, by
        simp (disch := first | omega | decide | assumption | simp [scal]) [runOps_nil, runOps_cons, runOpsF_nil, runOpsF_cons, fstS_some, fstF_some, opStep_eq, want_none, oStep_true, oStep_false, fin_pure, fin_read, fin_alloc, fin_write, storeB, wrN, cellV, addWr, o_move, o_assign, o_pick, o_alloc, o_box, o_load, o_store, o_nilCheck, o_bin, o_un, o_extract, o_callV, o_callB, o_callI, callV_f, callV_y, callV_fc, o_makeFunc, partsA, Instr.fill, builtin_len, builtin_max2, bin_add, bin_sub, bin_mul, bin_quo, bin_rem, bin_lss, bin_leq, bin_gtr, bin_geq, bin_eql, bin_neq, un_neg, un_not, opd, opds, optAll, lk, putO, put, has, rep, nbeq, nblt, constOk, isC, ops, sub, cl, cr, co, bodyOf, thenS_normal, thenS_ret, thenS_exit, thenS_goto, afterN_normal, afterN_ret, afterN_exit, afterN_goto, condS_true, condS_false, blockS_normal, blockS_ret, blockS_exit, blockS_goto, loopS_exit, loopS_ret, plainS_some, drawS_some, fpsOk, disj, unord, mem, range', dropTo, enumT, undef, wrap_i64_id, Value.cells, mkCells, ptrTo, scal, cellsAt, rdN, endS_ret, resultsA, Option.bind_some, tupV, finish, reach, reachN, dep, ptrL_eq, ptrL, renL_eq, renL, ptrV_bool, ptrV_int, ptrV_string, ptrV_nilFunc, ptrV_nilIface, ptrV_nilPtr, ptrV_ptr, ptrV_nilSl, ptrV_sl, ptrV_iface, ptrV_agg, ptrV_tuple, ptrV_func, renV_bool, renV_int, renV_string, renV_nilFunc, renV_nilIface, renV_nilPtr, renV_ptr, renV_nilSl, renV_sl, renV_iface, renV_agg, renV_tuple, renV_func, za_35, loadA_eq ia_24, loadA_eq ia_35, o_build za_35 pl_35, sz_35, o_fieldAddr fa_35_2 (by decide), loadA_eq ia_3, o_fieldAddr fa_35_3 (by decide), o_fieldAddr fa_89_1 (by decide), o_indexAddrA ea_87, o_indexAddrA ea_86, loadA_eq ia_85, n29_1s, n29_4s, n29_8s, n29_11s, n29_12s, n29_10s, n29_14s, n29_17s, n29_18s, n29_16s, n29_19s, n29_15s, n29_13s, n29_9s, n29_7s, n29_6s, n29_21s, n29_23s, n29_25s, n29_28s, n29_31s, n29_32s, n29_30s, n29_33s, n29_29s, n29_27s, n29_35s, n29_37s, n29_39s, n29_42s, n29_44s, n29_45s, n29_43s, n29_41s, n29_46s, n29_40s, n29_38s, n29_36s, n29_34s, n29_26s, n29_24s, n29_22s, n29_20s, n29_5s, n29_3s, n29_0s, Try.f29, kI, hi0, k8, hB, wi, hi, m93n, m93p, m94n, m94p, kp, kn, ki, eqlI1, h0]
        exact ⟨rfl, rfl, rfl⟩⟩
      simp [keepT, mem, nbeq, zk29]
  | false =>
    simp only [Bool.false_eq_true, if_false] at hq
    obtain ⟨m1, m2⟩ := hq
    have eW : (h : Int) - m = ((h - m : Nat) : Int) := by omega
    have kp := fun hp => k75 m x y w h hp (by unfold small; omega) (by unfold small; omega) (by unfold small; omega)
    rw [eW] at kp
    have kn := fun hp => k74 m x y w h hp (by unfold small; omega)
    have ki := fun rest : List Blk => k44 (own := own) c 0 (h := .cells cs 1 true own :: rest) F rfl (X := x) (Y := y) (W := w) (H := m) (by omega) (by omega) (by omega) (by omega)
    simp only [one, ndl, Bool.false_eq_true, if_false]
    simp only [lv_f] at hB
    by_cases h0 : indx (gr Wf nd) x y w m = 0
    · rw [h0] at ki
      simp only [h0, if_true]
      simp only [z29, g29, planB] at k8 ⊢
      refine ⟨_, _, _, ?_, by
        simp (disch := first | omega | decide | assumption | simp [scal]) [runOps_nil, runOps_cons, runOpsF_nil, runOpsF_cons, fstS_some, fstF_some, opStep_eq, want_none, oStep_true, oStep_false, fin_pure, fin_read, fin_alloc, fin_write, storeB, wrN, cellV, addWr, o_move, o_assign, o_pick, o_alloc, o_box, o_load, o_store, o_nilCheck, o_bin, o_un, o_extract, o_callV, o_callB, o_callI, callV_f, callV_y, callV_fc, o_makeFunc, partsA, Instr.fill, builtin_len, builtin_max2, bin_add, bin_sub, bin_mul, bin_quo, bin_rem, bin_lss, bin_leq, bin_gtr, bin_geq, bin_eql, bin_neq, un_neg, un_not, opd, opds, optAll, lk, putO, put, has, rep, nbeq, nblt, constOk, isC, ops, sub, cl, cr, co, bodyOf, thenS_normal, thenS_ret, thenS_exit, thenS_goto, afterN_normal, afterN_ret, afterN_exit, afterN_goto, condS_true, condS_false, blockS_normal, blockS_ret, blockS_exit, blockS_goto, loopS_exit, loopS_ret, plainS_some, drawS_some, fpsOk, disj, unord, mem, range', dropTo, enumT, undef, wrap_i64_id, Value.cells, mkCells, ptrTo, scal, cellsAt, rdN, endS_ret, resultsA, Option.bind_some, tupV, finish, reach, reachN, dep, ptrL_eq, ptrL, renL_eq, renL, ptrV_bool, ptrV_int, ptrV_string, ptrV_nilFunc, ptrV_nilIface, ptrV_nilPtr, ptrV_ptr, ptrV_nilSl, ptrV_sl, ptrV_iface, ptrV_agg, ptrV_tuple, ptrV_func, renV_bool, renV_int, renV_string, renV_nilFunc, renV_nilIface, renV_nilPtr, renV_ptr, renV_nilSl, renV_sl, renV_iface, renV_agg, renV_tuple, renV_func, za_35, loadA_eq ia_24, loadA_eq ia_35, o_build za_35 pl_35, sz_35, o_fieldAddr fa_35_2 (by decide), loadA_eq ia_3, o_fieldAddr fa_35_3 (by decide), o_fieldAddr fa_89_1 (by decide), o_indexAddrA ea_87, o_indexAddrA ea_86, loadA_eq ia_85, n29_1s, n29_4s, n29_8s, n29_11s, n29_12s, n29_10s, n29_14s, n29_17s, n29_18s, n29_16s, n29_19s, n29_15s, n29_13s, n29_9s, n29_7s, n29_6s, n29_21s, n29_23s, n29_25s, n29_28s, n29_31s, n29_32s, n29_30s, n29_33s, n29_29s, n29_27s, n29_35s, n29_37s, n29_39s, n29_42s, n29_44s, n29_45s, n29_43s, n29_41s, n29_46s, n29_40s, n29_38s, n29_36s, n29_34s, n29_26s, n29_24s, n29_22s, n29_20s, n29_5s, n29_3s, n29_0s, Try.f29, kI, hi0, k8, hB, wi, hi, m93n, m93p, m94n, m94p, kp, kn, ki, eqlI1, h0]
        exact ⟨rfl, rfl, rfl⟩⟩
      simp [keepT, mem, nbeq, zk29]
    · simp only [h0, if_false]
      generalize indx (gr Wf nd) x y w m = i1 at *
      simp only [z29, g29, planB] at k8 ⊢
      refine ⟨_, _, _, ?_, by
        simp (disch := first | omega | decide | assumption | simp [scal]) [runOps_nil, runOps_cons, runOpsF_nil, runOpsF_cons, fstS_some, fstF_some, opStep_eq, want_none, oStep_true, oStep_false, fin_pure, fin_read, fin_alloc, fin_write, storeB, wrN, cellV, addWr, o_move, o_assign, o_pick, o_alloc, o_box, o_load, o_store, o_nilCheck, o_bin, o_un, o_extract, o_callV, o_callB, o_callI, callV_f, callV_y, callV_fc, o_makeFunc, partsA, Instr.fill, builtin_len, builtin_max2, bin_add, bin_sub, bin_mul, bin_quo, bin_rem, bin_lss, bin_leq, bin_gtr, bin_geq, bin_eql, bin_neq, un_neg, un_not, opd, opds, optAll, lk, putO, put, has, rep, nbeq, nblt, constOk, isC, ops, sub, cl, cr, co, bodyOf, thenS_normal, thenS_ret, thenS_exit, thenS_goto, afterN_normal, afterN_ret, afterN_exit, afterN_goto, condS_true, condS_false, blockS_normal, blockS_ret, blockS_exit, blockS_goto, loopS_exit, loopS_ret, plainS_some, drawS_some, fpsOk, disj, unord, mem, range', dropTo, enumT, undef, wrap_i64_id, Value.cells, mkCells, ptrTo, scal, cellsAt, rdN, endS_ret, resultsA, Option.bind_some, tupV, finish, reach, reachN, dep, ptrL_eq, ptrL, renL_eq, renL, ptrV_bool, ptrV_int, ptrV_string, ptrV_nilFunc, ptrV_nilIface, ptrV_nilPtr, ptrV_ptr, ptrV_nilSl, ptrV_sl, ptrV_iface, ptrV_agg, ptrV_tuple, ptrV_func, renV_bool, renV_int, renV_string, renV_nilFunc, renV_nilIface, renV_nilPtr, renV_ptr, renV_nilSl, renV_sl, renV_iface, renV_agg, renV_tuple, renV_func, za_35, loadA_eq ia_24, loadA_eq ia_35, o_build za_35 pl_35, sz_35, o_fieldAddr fa_35_2 (by decide), loadA_eq ia_3, o_fieldAddr fa_35_3 (by decide), o_fieldAddr fa_89_1 (by decide), o_indexAddrA ea_87, o_indexAddrA ea_86, loadA_eq ia_85, n29_1s, n29_4s, n29_8s, n29_11s, n29_12s, n29_10s, n29_14s, n29_17s, n29_18s, n29_16s, n29_19s, n29_15s, n29_13s, n29_9s, n29_7s, n29_6s, n29_21s, n29_23s, n29_25s, n29_28s, n29_31s, n29_32s, n29_30s, n29_33s, n29_29s, n29_27s, n29_35s, n29_37s, n29_39s, n29_42s, n29_44s, n29_45s, n29_43s, n29_41s, n29_46s, n29_40s, n29_38s, n29_36s, n29_34s, n29_26s, n29_24s, n29_22s, n29_20s, n29_5s, n29_3s, n29_0s, Try.f29, kI, hi0, k8, hB, wi, hi, m93n, m93p, m94n, m94p, kp, kn, ki, eqlI1, h0]
        exact ⟨rfl, rfl, rfl⟩⟩
      simp [keepT, mem, nbeq, zk29]
theorem single29 (x y : Int) (i0 : Int) (hi0 : ¬ i0 = 0) (kI : ∀ rest : List Blk, callH LL 20 [fv Wf HH o 0 off n c, bv x y 1 1] (.cells cs 1 true own :: rest) = some ⟨.tuple #[iv i0, iv 0], .cells cs 1 true own :: rest, [0], []⟩) :
    ∃ st', codeB Try.prog LL ⟨29, 63, 1, none⟩ n29_3 ⟨z29 Wf HH o off n c x y 1 1, [.cells cs 1 true own, fb Wf HH o 0 off n c, bb x y 1 1, .cells [iv 0, iv 0, iv 0, iv 0] 1 true true], []⟩ = some (.ret, st') ∧
      endS Try.prog rs29 1 (some (.ret, st')) = some ⟨.tuple #[bv x y 1 1, iv 0, iv 0], [], []⟩ := by
  have k8 := k48 1 1 (by omega) (by omega)
  have hB : (planL (add S0 1 1))[81 + 1 * 9 + 1]? = some .nilIface := planBest (W := 1) (H := 1) (by omega) (by omega)
  simp only [z29, planB, Int.natCast_one] at k8 ⊢
  generalize planL (add S0 1 1) = pl at *
  refine ⟨_, by
    simp (disch := first | omega | decide | assumption | simp [scal]) [runOps_nil, runOps_cons, runOpsF_nil, runOpsF_cons, fstS_some, fstF_some, opStep_eq, want_none, oStep_true, oStep_false, fin_pure, fin_read, fin_alloc, fin_write, storeB, wrN, cellV, addWr, o_move, o_assign, o_pick, o_alloc, o_box, o_load, o_store, o_nilCheck, o_bin, o_un, o_extract, o_callV, o_callB, o_callI, callV_f, callV_y, callV_fc, o_makeFunc, partsA, Instr.fill, builtin_len, builtin_max2, bin_add, bin_sub, bin_mul, bin_quo, bin_rem, bin_lss, bin_leq, bin_gtr, bin_geq, bin_eql, bin_neq, un_neg, un_not, opd, opds, optAll, lk, putO, put, has, rep, nbeq, nblt, constOk, isC, ops, sub, cl, cr, co, bodyOf, thenS_normal, thenS_ret, thenS_exit, thenS_goto, afterN_normal, afterN_ret, afterN_exit, afterN_goto, condS_true, condS_false, blockS_normal, blockS_ret, blockS_exit, blockS_goto, loopS_exit, loopS_ret, plainS_some, drawS_some, fpsOk, disj, unord, mem, range', dropTo, enumT, undef, wrap_i64_id, Value.cells, mkCells, ptrTo, scal, cellsAt, rdN, endS_ret, resultsA, Option.bind_some, tupV, finish, reach, reachN, dep, ptrL_eq, ptrL, renL_eq, renL, ptrV_bool, ptrV_int, ptrV_string, ptrV_nilFunc, ptrV_nilIface, ptrV_nilPtr, ptrV_ptr, ptrV_nilSl, ptrV_sl, ptrV_iface, ptrV_agg, ptrV_tuple, ptrV_func, renV_bool, renV_int, renV_string, renV_nilFunc, renV_nilIface, renV_nilPtr, renV_ptr, renV_nilSl, renV_sl, renV_iface, renV_agg, renV_tuple, renV_func, za_35, loadA_eq ia_24, loadA_eq ia_35, o_build za_35 pl_35, sz_35, o_fieldAddr fa_35_2 (by decide), loadA_eq ia_3, o_fieldAddr fa_35_3 (by decide), o_fieldAddr fa_89_1 (by decide), o_indexAddrA ea_87, o_indexAddrA ea_86, loadA_eq ia_85, n29_1s, n29_4s, n29_8s, n29_11s, n29_12s, n29_10s, n29_14s, n29_17s, n29_18s, n29_16s, n29_19s, n29_15s, n29_13s, n29_9s, n29_7s, n29_6s, n29_21s, n29_23s, n29_25s, n29_28s, n29_31s, n29_32s, n29_30s, n29_33s, n29_29s, n29_27s, n29_35s, n29_37s, n29_39s, n29_42s, n29_44s, n29_45s, n29_43s, n29_41s, n29_46s, n29_40s, n29_38s, n29_36s, n29_34s, n29_26s, n29_24s, n29_22s, n29_20s, n29_5s, n29_3s, n29_0s, Try.f29, kI, hi0, k8, hB, eqlI0]
    rfl, ?_⟩
  simp (disch := first | omega | decide | assumption | simp [scal]) [runOps_nil, runOps_cons, runOpsF_nil, runOpsF_cons, fstS_some, fstF_some, opStep_eq, want_none, oStep_true, oStep_false, fin_pure, fin_read, fin_alloc, fin_write, storeB, wrN, cellV, addWr, o_move, o_assign, o_pick, o_alloc, o_box, o_load, o_store, o_nilCheck, o_bin, o_un, o_extract, o_callV, o_callB, o_callI, callV_f, callV_y, callV_fc, o_makeFunc, partsA, Instr.fill, builtin_len, builtin_max2, bin_add, bin_sub, bin_mul, bin_quo, bin_rem, bin_lss, bin_leq, bin_gtr, bin_geq, bin_eql, bin_neq, un_neg, un_not, opd, opds, optAll, lk, putO, put, has, rep, nbeq, nblt, constOk, isC, ops, sub, cl, cr, co, bodyOf, thenS_normal, thenS_ret, thenS_exit, thenS_goto, afterN_normal, afterN_ret, afterN_exit, afterN_goto, condS_true, condS_false, blockS_normal, blockS_ret, blockS_exit, blockS_goto, loopS_exit, loopS_ret, plainS_some, drawS_some, fpsOk, disj, unord, mem, range', dropTo, enumT, undef, wrap_i64_id, Value.cells, mkCells, ptrTo, scal, cellsAt, rdN, endS_ret, resultsA, Option.bind_some, tupV, finish, reach, reachN, dep, ptrL_eq, ptrL, renL_eq, renL, ptrV_bool, ptrV_int, ptrV_string, ptrV_nilFunc, ptrV_nilIface, ptrV_nilPtr, ptrV_ptr, ptrV_nilSl, ptrV_sl, ptrV_iface, ptrV_agg, ptrV_tuple, ptrV_func, renV_bool, renV_int, renV_string, renV_nilFunc, renV_nilIface, renV_nilPtr, renV_ptr, renV_nilSl, renV_sl, renV_iface, renV_agg, renV_tuple, renV_func, o_fieldAddr fa_24_2 (by decide), loadA_eq ia_3, o_fieldAddr fa_24_3 (by decide), loadA_eq ia_22, o_fieldAddr fa_24_0 (by decide), o_indexAddrS es_22, loadA_eq ia_31, o_fieldAddr fa_31_2 (by decide), o_fieldAddr fa_31_3 (by decide), o_fieldAddr fa_31_0 (by decide), o_fieldAddr fa_24_1 (by decide), lenA_sl lk_22, loadA_eq ia_24, o_fieldAddr fa_31_1 (by decide), za_31, sz_31, o_fieldAddr fa_35_0 (by decide), o_fieldAddr fa_35_1 (by decide), o_fieldAddr fa_35_2 (by decide), o_fieldAddr fa_35_3 (by decide), za_3, sz_3, loadA_eq ia_35, za_103, o_build za_103 pl_103, o_indexAddrS es_104, ze_104, o_buildSlice es_104 ze_104 (by decide) ba_104_4, lenA_sl lk_104, loadA_eq ia_103, sz_103, o_fieldAddr fa_103_2 (by decide), o_fieldAddr fa_103_0 (by decide), o_fieldAddr fa_103_1 (by decide), o_fieldAddr fa_38_0 (by decide), o_fieldAddr fa_38_1 (by decide), o_fieldAddr fa_38_2 (by decide), o_fieldAddr fa_38_3 (by decide), loadA_eq ia_38, za_89, o_build za_89 pl_89, za_90, sz_90, za_79, sz_79, loadA_eq ia_79, za_35, o_build za_35 pl_35, loadA_eq ia_90, o_fieldAddr fa_89_1 (by decide), o_indexAddrA ea_87, o_indexAddrA ea_86, loadA_eq ia_85, o_fieldAddr fa_89_0 (by decide), o_indexAddrA ea_83, o_indexAddrA ea_82, lenA_sl lk_101, o_indexAddrS es_101, sz_35, sz_85, o_mkI ii_93, ze_101, o_buildSlice es_101 ze_101 (by decide) ba_101_1, ap_101, builtin_append ni_101, o_mkI ii_94, o_index ix_83, o_index ix_82, za_83, loadA_eq ia_83, sz_83, optAll]
end
end Go.Proofs.Ytgpcjdhlijompaa.ore

