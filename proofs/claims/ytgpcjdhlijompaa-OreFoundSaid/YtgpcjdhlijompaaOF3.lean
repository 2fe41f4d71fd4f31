/-
  Contracts of functions of the program at the limit evaluator, continued. No condition.
-/
import Derived.Test.YtgpcjdhlijompaaOF2
namespace Go.Proofs.Ytgpcjdhlijompaa.ore
open Go.GE
set_option linter.unusedVariables false
set_option linter.unusedSimpArgs false
set_option maxRecDepth 100000
abbrev trip (X Y W H r e : Int) : Value := .tuple #[bv X Y W H, iv r, iv e]
section
variable (w hh o : Int) (off n c : Nat) (X Y W H : Int) (cs : List Value) (own : Bool) (nd : Nat → Int)
/-- what 'Find' answers -/
def FindS (v : Value) : Prop :=
  ((ires w hh o n nd X Y W H).2 ≠ 0 ∧ v = trip 0 0 0 0 0 (ires w hh o n nd X Y W H).2) ∨
  ((ires w hh o n nd X Y W H).2 = 0 ∧ (ires w hh o n nd X Y W H).1 = 0 ∧ v = trip 0 0 0 0 0 6) ∨
  ((ires w hh o n nd X Y W H).2 = 0 ∧ (ires w hh o n nd X Y W H).1 ≠ 0 ∧ chk w hh o n nd = 0 ∧ hasB w hh X Y W H ∧ ∃ (x' y' : Nat) (r' : Int), v = trip x' y' 1 1 r' 0 ∧ Fnd (gr w.toNat nd) X.toNat Y.toNat W.toNat H.toNat 0 x' y' r')
theorem c29 (hcs : ∀ i, i < n → cs[off + i]? = some (iv (nd i))) (hn : n ≤ 200) : ∃ v, FindS w hh o n X Y W H nd v ∧ LL.run 29 [fv w hh o 0 off n c, bv X Y W H] [.cells cs 1 true own] = some ⟨v, [], []⟩ := by
  have k := fun rest : List Blk => k20 w hh o 0 off n c X Y W H nd (h := .cells cs 1 true own :: rest) rfl hcs hn
  by_cases h2 : (ires w hh o n nd X Y W H).2 = 0
  · by_cases h1 : (ires w hh o n nd X Y W H).1 = 0
    · refine ⟨_, .inr (.inl ⟨h2, h1, rfl⟩), go (by decide) ?_⟩
      rw [run29 _ _ _ (by simp)]
      simp only [pr, h1, h2] at k
      rw [n29_0s, n29_1s]
      simp (disch := first | omega | decide | assumption | simp [scal]) [runOps_nil, runOps_cons, runOpsF_nil, runOpsF_cons, fstS_some, fstF_some, opStep_eq, want_none, oStep_true, oStep_false, fin_pure, fin_read, fin_alloc, fin_write, storeB, wrN, cellV, addWr, o_move, o_assign, o_pick, o_alloc, o_box, o_load, o_store, o_nilCheck, o_bin, o_un, o_extract, o_callV, o_callB, o_callI, callV_f, callV_y, callV_fc, o_makeFunc, partsA, Instr.fill, builtin_len, builtin_max2, bin_add, bin_sub, bin_mul, bin_quo, bin_rem, bin_lss, bin_leq, bin_gtr, bin_geq, bin_eql, bin_neq, un_neg, un_not, opd, opds, optAll, lk, putO, put, has, rep, nbeq, nblt, constOk, isC, ops, sub, cl, cr, co, bodyOf, thenS_normal, thenS_ret, thenS_exit, thenS_goto, afterN_normal, afterN_ret, afterN_exit, afterN_goto, condS_true, condS_false, blockS_normal, blockS_ret, blockS_exit, blockS_goto, loopS_exit, loopS_ret, plainS_some, drawS_some, fpsOk, disj, unord, mem, range', dropTo, enumT, undef, wrap_i64_id, Value.cells, mkCells, ptrTo, scal, cellsAt, rdN, endS_ret, resultsA, Option.bind_some, tupV, finish, reach, reachN, dep, ptrL_eq, ptrL, renL_eq, renL, ptrV_bool, ptrV_int, ptrV_string, ptrV_nilFunc, ptrV_nilIface, ptrV_nilPtr, ptrV_ptr, ptrV_nilSl, ptrV_sl, ptrV_iface, ptrV_agg, ptrV_tuple, ptrV_func, renV_bool, renV_int, renV_string, renV_nilFunc, renV_nilIface, renV_nilPtr, renV_ptr, renV_nilSl, renV_sl, renV_iface, renV_agg, renV_tuple, renV_func, za_35, loadA_eq ia_24, loadA_eq ia_35, o_build za_35 pl_35, sz_35, o_fieldAddr fa_35_2 (by decide), loadA_eq ia_3, o_fieldAddr fa_35_3 (by decide), o_fieldAddr fa_89_1 (by decide), o_indexAddrA ea_87, o_indexAddrA ea_86, loadA_eq ia_85, n29_1s, n29_4s, n29_8s, n29_11s, n29_12s, n29_10s, n29_14s, n29_17s, n29_18s, n29_16s, n29_19s, n29_15s, n29_13s, n29_9s, n29_7s, n29_6s, n29_21s, n29_23s, n29_25s, n29_28s, n29_31s, n29_32s, n29_30s, n29_33s, n29_29s, n29_27s, n29_35s, n29_37s, n29_39s, n29_42s, n29_44s, n29_45s, n29_43s, n29_41s, n29_46s, n29_40s, n29_38s, n29_36s, n29_34s, n29_26s, n29_24s, n29_22s, n29_20s, n29_5s, n29_3s, n29_0s, Try.f29]
      rw [scope_ret n29_2e (by
        simp (disch := first | omega | decide | assumption | simp [scal]) [runOps_nil, runOps_cons, runOpsF_nil, runOpsF_cons, fstS_some, fstF_some, opStep_eq, want_none, oStep_true, oStep_false, fin_pure, fin_read, fin_alloc, fin_write, storeB, wrN, cellV, addWr, o_move, o_assign, o_pick, o_alloc, o_box, o_load, o_store, o_nilCheck, o_bin, o_un, o_extract, o_callV, o_callB, o_callI, callV_f, callV_y, callV_fc, o_makeFunc, partsA, Instr.fill, builtin_len, builtin_max2, bin_add, bin_sub, bin_mul, bin_quo, bin_rem, bin_lss, bin_leq, bin_gtr, bin_geq, bin_eql, bin_neq, un_neg, un_not, opd, opds, optAll, lk, putO, put, has, rep, nbeq, nblt, constOk, isC, ops, sub, cl, cr, co, bodyOf, thenS_normal, thenS_ret, thenS_exit, thenS_goto, afterN_normal, afterN_ret, afterN_exit, afterN_goto, condS_true, condS_false, blockS_normal, blockS_ret, blockS_exit, blockS_goto, loopS_exit, loopS_ret, plainS_some, drawS_some, fpsOk, disj, unord, mem, range', dropTo, enumT, undef, wrap_i64_id, Value.cells, mkCells, ptrTo, scal, cellsAt, rdN, endS_ret, resultsA, Option.bind_some, tupV, finish, reach, reachN, dep, ptrL_eq, ptrL, renL_eq, renL, ptrV_bool, ptrV_int, ptrV_string, ptrV_nilFunc, ptrV_nilIface, ptrV_nilPtr, ptrV_ptr, ptrV_nilSl, ptrV_sl, ptrV_iface, ptrV_agg, ptrV_tuple, ptrV_func, renV_bool, renV_int, renV_string, renV_nilFunc, renV_nilIface, renV_nilPtr, renV_ptr, renV_nilSl, renV_sl, renV_iface, renV_agg, renV_tuple, renV_func, za_35, loadA_eq ia_24, loadA_eq ia_35, o_build za_35 pl_35, sz_35, o_fieldAddr fa_35_2 (by decide), loadA_eq ia_3, o_fieldAddr fa_35_3 (by decide), o_fieldAddr fa_89_1 (by decide), o_indexAddrA ea_87, o_indexAddrA ea_86, loadA_eq ia_85, n29_1s, n29_4s, n29_8s, n29_11s, n29_12s, n29_10s, n29_14s, n29_17s, n29_18s, n29_16s, n29_19s, n29_15s, n29_13s, n29_9s, n29_7s, n29_6s, n29_21s, n29_23s, n29_25s, n29_28s, n29_31s, n29_32s, n29_30s, n29_33s, n29_29s, n29_27s, n29_35s, n29_37s, n29_39s, n29_42s, n29_44s, n29_45s, n29_43s, n29_41s, n29_46s, n29_40s, n29_38s, n29_36s, n29_34s, n29_26s, n29_24s, n29_22s, n29_20s, n29_5s, n29_3s, n29_0s, Try.f29, k]
        rfl)]
      simp (disch := first | omega | decide | assumption | simp [scal]) [runOps_nil, runOps_cons, runOpsF_nil, runOpsF_cons, fstS_some, fstF_some, opStep_eq, want_none, oStep_true, oStep_false, fin_pure, fin_read, fin_alloc, fin_write, storeB, wrN, cellV, addWr, o_move, o_assign, o_pick, o_alloc, o_box, o_load, o_store, o_nilCheck, o_bin, o_un, o_extract, o_callV, o_callB, o_callI, callV_f, callV_y, callV_fc, o_makeFunc, partsA, Instr.fill, builtin_len, builtin_max2, bin_add, bin_sub, bin_mul, bin_quo, bin_rem, bin_lss, bin_leq, bin_gtr, bin_geq, bin_eql, bin_neq, un_neg, un_not, opd, opds, optAll, lk, putO, put, has, rep, nbeq, nblt, constOk, isC, ops, sub, cl, cr, co, bodyOf, thenS_normal, thenS_ret, thenS_exit, thenS_goto, afterN_normal, afterN_ret, afterN_exit, afterN_goto, condS_true, condS_false, blockS_normal, blockS_ret, blockS_exit, blockS_goto, loopS_exit, loopS_ret, plainS_some, drawS_some, fpsOk, disj, unord, mem, range', dropTo, enumT, undef, wrap_i64_id, Value.cells, mkCells, ptrTo, scal, cellsAt, rdN, endS_ret, resultsA, Option.bind_some, tupV, finish, reach, reachN, dep, ptrL_eq, ptrL, renL_eq, renL, ptrV_bool, ptrV_int, ptrV_string, ptrV_nilFunc, ptrV_nilIface, ptrV_nilPtr, ptrV_ptr, ptrV_nilSl, ptrV_sl, ptrV_iface, ptrV_agg, ptrV_tuple, ptrV_func, renV_bool, renV_int, renV_string, renV_nilFunc, renV_nilIface, renV_nilPtr, renV_ptr, renV_nilSl, renV_sl, renV_iface, renV_agg, renV_tuple, renV_func, loadA_eq ia_59, za_24, sz_24, loadA_eq ia_24, loadA_eq ia_60, za_35, sz_35, loadA_eq ia_35, o_fieldAddr fa_35_2 (by decide), loadA_eq ia_3, o_fieldAddr fa_35_3 (by decide), o_fieldAddr fa_35_0 (by decide), o_fieldAddr fa_35_1 (by decide), o_fieldAddr fa_24_0 (by decide), o_fieldAddr fa_24_1 (by decide), o_fieldAddr fa_24_2 (by decide), o_fieldAddr fa_24_3 (by decide), loadA_eq ia_22, lenA_sl lk_22, o_indexAddrS es_22, o_fieldAddr fa_89_0 (by decide), o_indexAddrA ea_83, o_indexAddrA ea_82, o_build za_35 pl_35, o_fieldAddr fa_89_1 (by decide), o_indexAddrA ea_87, o_indexAddrA ea_86, loadA_eq ia_85, o_fieldAddr fa_59_0 (by decide), loadA_eq ia_5, o_convI cv_5_3, o_fieldAddr fa_59_1 (by decide), o_fieldAddr fa_59_2 (by decide), o_build za_24 pl_24, o_fieldAddr fa_59_3 (by decide), loadA_eq ia_57, lenA_sl lk_57, o_indexAddrS es_57, ze_22, o_buildSlice es_22 ze_22 (by decide) ba_22_1, ap_22, builtin_append ni_22, sz_22, o_indexAddrA ea_60, za_3, sz_3, za_89, o_build za_89 pl_89, za_90, sz_90, za_79, sz_79, loadA_eq ia_79, loadA_eq ia_90, lenA_sl lk_101, o_indexAddrS es_101, sz_85, o_mkI ii_93, ze_101, o_buildSlice es_101 ze_101 (by decide) ba_101_1, ap_101, builtin_append ni_101, o_mkI ii_94, za_103, o_build za_103 pl_103, o_indexAddrS es_104, ze_104, o_buildSlice es_104 ze_104 (by decide) ba_104_4, lenA_sl lk_104, loadA_eq ia_103, sz_103, o_fieldAddr fa_103_2 (by decide), o_fieldAddr fa_103_0 (by decide), o_fieldAddr fa_103_1 (by decide), optAll]
    · -- found
      have hc : chk w hh o n nd = 0 := by
        refine Classical.byContradiction fun hc => ?_
        have : ires w hh o n nd X Y W H = (0, chk w hh o n nd) := by simp only [ires, hc, ne_eq, not_false_eq_true, if_true]
        rw [this] at h2
        exact hc h2
      have hb : hasB w hh X Y W H := by
        refine Classical.byContradiction fun hb => ?_
        have : ires w hh o n nd X Y W H = (0, 1) := by simp only [ires, hc, hb, ne_eq, not_true, if_false, not_false_eq_true, if_true]
        rw [this] at h2
        cases h2
      obtain ⟨Wf, HH, rfl, rfl, F, hg⟩ := chk_zero hc hcs
      have G := F.sure hg
      have hwf := F.hw; have hhf := F.hh
      have hb' := hb
      obtain ⟨b1, b2, b3, b4⟩ := hb'
      obtain ⟨x, rfl⟩ : ∃ k : Nat, X = k := ⟨X.toNat, by omega⟩
      obtain ⟨y, rfl⟩ : ∃ k : Nat, Y = k := ⟨Y.toNat, by omega⟩
      obtain ⟨w', rfl⟩ : ∃ k : Nat, W = k := ⟨W.toNat, by omega⟩
      obtain ⟨h', rfl⟩ : ∃ k : Nat, H = k := ⟨H.toNat, by omega⟩
      have er : ires Wf HH o n nd x y w' h' = (indx (gr Wf nd) x y w' h', 0) := by simp only [ires, hc, hb, ne_eq, not_true, if_false, Int.toNat_natCast]
      have hne : indx (gr Wf nd) x y w' h' ≠ 0 := by rw [er] at h1; exact h1
      have k' : ∀ rest : List Blk, callH LL 20 [fv Wf HH o 0 off n c, bv x y w' h'] (.cells cs 1 true own :: rest) = some ⟨.tuple #[iv (indx (gr Wf nd) x y w' h'), iv 0], .cells cs 1 true own :: rest, [0], []⟩ := fun rest => by
        have := k rest
        rw [er] at this
        exact this
      have start : ∃ (x' y' : Nat) (r' : Int) (st' : St), Fnd (gr Wf nd) x y w' h' 0 x' y' r' ∧ codeB Try.prog LL ⟨29, 63, 1, none⟩ n29_2 ⟨z29 Wf HH o off n c x y w' h', [.cells cs 1 true own, fb Wf HH o 0 off n c, bb x y w' h', .cells [iv 0, iv 0, iv 0, iv 0] 1 true true], []⟩ = some (.ret, st') ∧
          endS Try.prog rs29 1 (some (.ret, st')) = some ⟨trip x' y' 1 1 r' 0, [], []⟩ := by
        cases hq : tB w' h' with
        | none =>
          have h11 := (best_T (W := w') (H := h') (by omega) (by omega) (by omega) (by omega)).2.1 hq
          obtain ⟨rfl, rfl⟩ := h11
          obtain ⟨st', e1, e2⟩ := single29 Wf HH o off n c cs own x y _ hne k'
          have t0 := tT_b 1 1
          exact ⟨x, y, 0, st', ⟨⟨by omega, by omega⟩, ⟨by omega, by omega⟩, hne, by omega, by omega⟩, scope_ret n29_2e e1, e2⟩
        | some q =>
          obtain ⟨q1, q2, q3⟩ := best_q (W := w') (H := h') (by omega) (by omega) (by omega) (by omega) hq
          have hqq : if q.1 then 1 ≤ q.2 ∧ q.2 < w' else 1 ≤ q.2 ∧ q.2 < h' := by
            cases hq1 : q.1 with
            | true => rw [hq1] at q2; simp only [if_true] at q2 ⊢; exact ⟨q1, q2⟩
            | false => rw [hq1] at q2; simp only [Bool.false_eq_true, if_false] at q2 ⊢; exact ⟨q1, q2⟩
          have hB : (planL (add S0 w' h'))[81 + w' * 9 + h']? = some (lv q) := by
            have := planBest (W := w') (H := h') (by omega) (by omega)
            rw [hq] at this; exact this
          have tb := tT_b w' h'
          have hS : ∀ a b, 1 ≤ a → a ≤ w' → 1 ≤ b → b ≤ h' → (planL (add S0 w' h'))[81 + a * 9 + b]? = some (wv (tB a b)) := by
            intro a b a1 a2 a3 a4
            rw [plan_B (by omega) (by omega)]
            by_cases h11 : a = 1 ∧ b = 1
            · obtain ⟨rfl, rfl⟩ := h11
              have e1 : add S0 w' h' 1 1 = false := by simp [add, S0]
              have e2 : tB 1 1 = none := rfl
              rw [e1, e2]; rfl
            · rw [if_pos (by simp only [add, S0, Bool.false_or, decide_eq_true_eq]; exact ⟨a1, a2, a3, a4, h11⟩)]
          obtain ⟨σ', b5, b6, k1, k2⟩ := first29 Wf HH o off n c cs own nd F (x := x) (y := y) (w := w') (h := h') (by omega) (by omega) (by omega) (by omega) q _ rfl hB hqq _ hne k'
          have next : ∃ x1 y1 w1' h1' : Nat, (if indx (gr Wf nd) x y (one w' h' q).1 (one w' h' q).2 = 0 then (if q.1 then g29 Wf HH o off n c cs own (add S0 w' h') (x + q.2) y (w' - q.2 : Nat) h' else g29 Wf HH o off n c cs own (add S0 w' h') x (y + q.2) w' (h' - q.2 : Nat)) else g29 Wf HH o off n c cs own (add S0 w' h') x y (one w' h' q).1 (one w' h' q).2) = g29 Wf HH o off n c cs own (add S0 w' h') x1 y1 w1' h1' ∧
              1 ≤ w1' ∧ w1' ≤ w' ∧ 1 ≤ h1' ∧ h1' ≤ h' ∧ x ≤ x1 ∧ x1 + w1' ≤ x + w' ∧ y ≤ y1 ∧ y1 + h1' ≤ y + h' ∧ indx (gr Wf nd) x1 y1 w1' h1' ≠ 0 ∧ 0 ≤ ndl w' h' q ∧ ndl w' h' q + tT w1' h1' ≤ tT w' h' := by
            obtain ⟨tag, m⟩ := q
            cases tag with
            | true =>
              simp only [if_true] at hqq ⊢
              have ha := indx_up (n := m) G (X := x) (Y := y) (W := w') (H := h') (by omega) (by omega) (by omega)
              simp only [cst, ndl, one, two, if_true] at q3 ⊢
              by_cases h0 : indx (gr Wf nd) x y m h' = 0
              · rw [if_pos h0]
                refine ⟨x + m, y, w' - m, h', by rw [Int.natCast_add], by omega, by omega, by omega, by omega, by omega, by omega, by omega, by omega, ?_, by omega, ?_⟩
                · intro h9; apply hne; rw [ha, h0, h9]; rfl
                · rw [← q3]; omega
              · rw [if_neg h0]
                exact ⟨x, y, m, h', rfl, by omega, by omega, by omega, by omega, by omega, by omega, by omega, by omega, h0, by omega, by rw [← q3]; omega⟩
            | false =>
              simp only [Bool.false_eq_true, if_false] at hqq ⊢
              have ha := indx_lev (n := m) G (X := x) (Y := y) (W := w') (H := h') (by omega) (by omega) (by omega)
              simp only [cst, ndl, one, two, Bool.false_eq_true, if_false] at q3 ⊢
              by_cases h0 : indx (gr Wf nd) x y w' m = 0
              · rw [if_pos h0]
                refine ⟨x, y + m, w', h' - m, by rw [Int.natCast_add], by omega, by omega, by omega, by omega, by omega, by omega, by omega, by omega, ?_, by omega, ?_⟩
                · intro h9; apply hne; rw [ha, h0, h9]; rfl
                · rw [← q3]; omega
              · rw [if_neg h0]
                exact ⟨x, y, w', m, rfl, by omega, by omega, by omega, by omega, by omega, by omega, by omega, by omega, h0, by omega, by rw [← q3]; omega⟩
          obtain ⟨x1, y1, w1', h1', g1, g3, g4, g5, g6, g7, g8, g9, g10, g11, g12, g13⟩ := next
          rw [g1] at k2
          obtain ⟨x', y', r', st', f1, f2, f3⟩ := loop29 Wf HH o off n c cs own nd _ F G w' h' (by omega) (by omega) hS _ x1 y1 w1' h1' (ndl w' h' q) (Nat.le_refl _) g3 g4 g5 g6 (by omega) (by omega) g12 (by omega) g11
          refine ⟨x', y', r', st', ?_, ?_, f3⟩
          · obtain ⟨⟨a1, a2⟩, ⟨a3, a4⟩, a5, a6, a7⟩ := f1
            exact ⟨⟨by omega, by omega⟩, ⟨by omega, by omega⟩, a5, by omega, by omega⟩
          · rw [scope_goto n29_2e k2 fl29 ks29 (by rw [k1]; exact swz29 Wf HH o off n c cs own _ x1 y1 w1' h1' _ b5 b6)]
            exact L_scp f2
      obtain ⟨x', y', r', st', f1, f2, f3⟩ := start
      refine ⟨_, .inr (.inr ⟨h2, h1, hc, hb, x', y', r', rfl, by simpa only [Int.toNat_natCast] using f1⟩), go (by decide) ?_⟩
      rw [run29 _ _ _ (by simp)]
      rw [n29_0s, n29_1s]
      simp only [z29, fb, bb] at f2
      simp (disch := first | omega | decide | assumption | simp [scal]) [runOps_nil, runOps_cons, runOpsF_nil, runOpsF_cons, fstS_some, fstF_some, opStep_eq, want_none, oStep_true, oStep_false, fin_pure, fin_read, fin_alloc, fin_write, storeB, wrN, cellV, addWr, o_move, o_assign, o_pick, o_alloc, o_box, o_load, o_store, o_nilCheck, o_bin, o_un, o_extract, o_callV, o_callB, o_callI, callV_f, callV_y, callV_fc, o_makeFunc, partsA, Instr.fill, builtin_len, builtin_max2, bin_add, bin_sub, bin_mul, bin_quo, bin_rem, bin_lss, bin_leq, bin_gtr, bin_geq, bin_eql, bin_neq, un_neg, un_not, opd, opds, optAll, lk, putO, put, has, rep, nbeq, nblt, constOk, isC, ops, sub, cl, cr, co, bodyOf, thenS_normal, thenS_ret, thenS_exit, thenS_goto, afterN_normal, afterN_ret, afterN_exit, afterN_goto, condS_true, condS_false, blockS_normal, blockS_ret, blockS_exit, blockS_goto, loopS_exit, loopS_ret, plainS_some, drawS_some, fpsOk, disj, unord, mem, range', dropTo, enumT, undef, wrap_i64_id, Value.cells, mkCells, ptrTo, scal, cellsAt, rdN, endS_ret, resultsA, Option.bind_some, tupV, finish, reach, reachN, dep, ptrL_eq, ptrL, renL_eq, renL, ptrV_bool, ptrV_int, ptrV_string, ptrV_nilFunc, ptrV_nilIface, ptrV_nilPtr, ptrV_ptr, ptrV_nilSl, ptrV_sl, ptrV_iface, ptrV_agg, ptrV_tuple, ptrV_func, renV_bool, renV_int, renV_string, renV_nilFunc, renV_nilIface, renV_nilPtr, renV_ptr, renV_nilSl, renV_sl, renV_iface, renV_agg, renV_tuple, renV_func, za_35, loadA_eq ia_24, loadA_eq ia_35, o_build za_35 pl_35, sz_35, o_fieldAddr fa_35_2 (by decide), loadA_eq ia_3, o_fieldAddr fa_35_3 (by decide), o_fieldAddr fa_89_1 (by decide), o_indexAddrA ea_87, o_indexAddrA ea_86, loadA_eq ia_85, n29_1s, n29_4s, n29_8s, n29_11s, n29_12s, n29_10s, n29_14s, n29_17s, n29_18s, n29_16s, n29_19s, n29_15s, n29_13s, n29_9s, n29_7s, n29_6s, n29_21s, n29_23s, n29_25s, n29_28s, n29_31s, n29_32s, n29_30s, n29_33s, n29_29s, n29_27s, n29_35s, n29_37s, n29_39s, n29_42s, n29_44s, n29_45s, n29_43s, n29_41s, n29_46s, n29_40s, n29_38s, n29_36s, n29_34s, n29_26s, n29_24s, n29_22s, n29_20s, n29_5s, n29_3s, n29_0s, Try.f29]
      rw [f2]
      exact f3
  · refine ⟨_, .inl ⟨h2, rfl⟩, go (by decide) ?_⟩
    rw [run29 _ _ _ (by simp)]
    generalize ires w hh o n nd X Y W H = I at *
    rw [n29_0s, n29_1s]
    simp (disch := first | omega | decide | assumption | simp [scal]) [runOps_nil, runOps_cons, runOpsF_nil, runOpsF_cons, fstS_some, fstF_some, opStep_eq, want_none, oStep_true, oStep_false, fin_pure, fin_read, fin_alloc, fin_write, storeB, wrN, cellV, addWr, o_move, o_assign, o_pick, o_alloc, o_box, o_load, o_store, o_nilCheck, o_bin, o_un, o_extract, o_callV, o_callB, o_callI, callV_f, callV_y, callV_fc, o_makeFunc, partsA, Instr.fill, builtin_len, builtin_max2, bin_add, bin_sub, bin_mul, bin_quo, bin_rem, bin_lss, bin_leq, bin_gtr, bin_geq, bin_eql, bin_neq, un_neg, un_not, opd, opds, optAll, lk, putO, put, has, rep, nbeq, nblt, constOk, isC, ops, sub, cl, cr, co, bodyOf, thenS_normal, thenS_ret, thenS_exit, thenS_goto, afterN_normal, afterN_ret, afterN_exit, afterN_goto, condS_true, condS_false, blockS_normal, blockS_ret, blockS_exit, blockS_goto, loopS_exit, loopS_ret, plainS_some, drawS_some, fpsOk, disj, unord, mem, range', dropTo, enumT, undef, wrap_i64_id, Value.cells, mkCells, ptrTo, scal, cellsAt, rdN, endS_ret, resultsA, Option.bind_some, tupV, finish, reach, reachN, dep, ptrL_eq, ptrL, renL_eq, renL, ptrV_bool, ptrV_int, ptrV_string, ptrV_nilFunc, ptrV_nilIface, ptrV_nilPtr, ptrV_ptr, ptrV_nilSl, ptrV_sl, ptrV_iface, ptrV_agg, ptrV_tuple, ptrV_func, renV_bool, renV_int, renV_string, renV_nilFunc, renV_nilIface, renV_nilPtr, renV_ptr, renV_nilSl, renV_sl, renV_iface, renV_agg, renV_tuple, renV_func, za_35, loadA_eq ia_24, loadA_eq ia_35, o_build za_35 pl_35, sz_35, o_fieldAddr fa_35_2 (by decide), loadA_eq ia_3, o_fieldAddr fa_35_3 (by decide), o_fieldAddr fa_89_1 (by decide), o_indexAddrA ea_87, o_indexAddrA ea_86, loadA_eq ia_85, n29_1s, n29_4s, n29_8s, n29_11s, n29_12s, n29_10s, n29_14s, n29_17s, n29_18s, n29_16s, n29_19s, n29_15s, n29_13s, n29_9s, n29_7s, n29_6s, n29_21s, n29_23s, n29_25s, n29_28s, n29_31s, n29_32s, n29_30s, n29_33s, n29_29s, n29_27s, n29_35s, n29_37s, n29_39s, n29_42s, n29_44s, n29_45s, n29_43s, n29_41s, n29_46s, n29_40s, n29_38s, n29_36s, n29_34s, n29_26s, n29_24s, n29_22s, n29_20s, n29_5s, n29_3s, n29_0s, Try.f29]
    rw [scope_ret n29_2e (by
      simp (disch := first | omega | decide | assumption | simp [scal]) [runOps_nil, runOps_cons, runOpsF_nil, runOpsF_cons, fstS_some, fstF_some, opStep_eq, want_none, oStep_true, oStep_false, fin_pure, fin_read, fin_alloc, fin_write, storeB, wrN, cellV, addWr, o_move, o_assign, o_pick, o_alloc, o_box, o_load, o_store, o_nilCheck, o_bin, o_un, o_extract, o_callV, o_callB, o_callI, callV_f, callV_y, callV_fc, o_makeFunc, partsA, Instr.fill, builtin_len, builtin_max2, bin_add, bin_sub, bin_mul, bin_quo, bin_rem, bin_lss, bin_leq, bin_gtr, bin_geq, bin_eql, bin_neq, un_neg, un_not, opd, opds, optAll, lk, putO, put, has, rep, nbeq, nblt, constOk, isC, ops, sub, cl, cr, co, bodyOf, thenS_normal, thenS_ret, thenS_exit, thenS_goto, afterN_normal, afterN_ret, afterN_exit, afterN_goto, condS_true, condS_false, blockS_normal, blockS_ret, blockS_exit, blockS_goto, loopS_exit, loopS_ret, plainS_some, drawS_some, fpsOk, disj, unord, mem, range', dropTo, enumT, undef, wrap_i64_id, Value.cells, mkCells, ptrTo, scal, cellsAt, rdN, endS_ret, resultsA, Option.bind_some, tupV, finish, reach, reachN, dep, ptrL_eq, ptrL, renL_eq, renL, ptrV_bool, ptrV_int, ptrV_string, ptrV_nilFunc, ptrV_nilIface, ptrV_nilPtr, ptrV_ptr, ptrV_nilSl, ptrV_sl, ptrV_iface, ptrV_agg, ptrV_tuple, ptrV_func, renV_bool, renV_int, renV_string, renV_nilFunc, renV_nilIface, renV_nilPtr, renV_ptr, renV_nilSl, renV_sl, renV_iface, renV_agg, renV_tuple, renV_func, za_35, loadA_eq ia_24, loadA_eq ia_35, o_build za_35 pl_35, sz_35, o_fieldAddr fa_35_2 (by decide), loadA_eq ia_3, o_fieldAddr fa_35_3 (by decide), o_fieldAddr fa_89_1 (by decide), o_indexAddrA ea_87, o_indexAddrA ea_86, loadA_eq ia_85, n29_1s, n29_4s, n29_8s, n29_11s, n29_12s, n29_10s, n29_14s, n29_17s, n29_18s, n29_16s, n29_19s, n29_15s, n29_13s, n29_9s, n29_7s, n29_6s, n29_21s, n29_23s, n29_25s, n29_28s, n29_31s, n29_32s, n29_30s, n29_33s, n29_29s, n29_27s, n29_35s, n29_37s, n29_39s, n29_42s, n29_44s, n29_45s, n29_43s, n29_41s, n29_46s, n29_40s, n29_38s, n29_36s, n29_34s, n29_26s, n29_24s, n29_22s, n29_20s, n29_5s, n29_3s, n29_0s, Try.f29, k, h2]
      rfl)]
    simp (disch := first | omega | decide | assumption | simp [scal]) [runOps_nil, runOps_cons, runOpsF_nil, runOpsF_cons, fstS_some, fstF_some, opStep_eq, want_none, oStep_true, oStep_false, fin_pure, fin_read, fin_alloc, fin_write, storeB, wrN, cellV, addWr, o_move, o_assign, o_pick, o_alloc, o_box, o_load, o_store, o_nilCheck, o_bin, o_un, o_extract, o_callV, o_callB, o_callI, callV_f, callV_y, callV_fc, o_makeFunc, partsA, Instr.fill, builtin_len, builtin_max2, bin_add, bin_sub, bin_mul, bin_quo, bin_rem, bin_lss, bin_leq, bin_gtr, bin_geq, bin_eql, bin_neq, un_neg, un_not, opd, opds, optAll, lk, putO, put, has, rep, nbeq, nblt, constOk, isC, ops, sub, cl, cr, co, bodyOf, thenS_normal, thenS_ret, thenS_exit, thenS_goto, afterN_normal, afterN_ret, afterN_exit, afterN_goto, condS_true, condS_false, blockS_normal, blockS_ret, blockS_exit, blockS_goto, loopS_exit, loopS_ret, plainS_some, drawS_some, fpsOk, disj, unord, mem, range', dropTo, enumT, undef, wrap_i64_id, Value.cells, mkCells, ptrTo, scal, cellsAt, rdN, endS_ret, resultsA, Option.bind_some, tupV, finish, reach, reachN, dep, ptrL_eq, ptrL, renL_eq, renL, ptrV_bool, ptrV_int, ptrV_string, ptrV_nilFunc, ptrV_nilIface, ptrV_nilPtr, ptrV_ptr, ptrV_nilSl, ptrV_sl, ptrV_iface, ptrV_agg, ptrV_tuple, ptrV_func, renV_bool, renV_int, renV_string, renV_nilFunc, renV_nilIface, renV_nilPtr, renV_ptr, renV_nilSl, renV_sl, renV_iface, renV_agg, renV_tuple, renV_func, loadA_eq ia_59, za_24, sz_24, loadA_eq ia_24, loadA_eq ia_60, za_35, sz_35, loadA_eq ia_35, o_fieldAddr fa_35_2 (by decide), loadA_eq ia_3, o_fieldAddr fa_35_3 (by decide), o_fieldAddr fa_35_0 (by decide), o_fieldAddr fa_35_1 (by decide), o_fieldAddr fa_24_0 (by decide), o_fieldAddr fa_24_1 (by decide), o_fieldAddr fa_24_2 (by decide), o_fieldAddr fa_24_3 (by decide), loadA_eq ia_22, lenA_sl lk_22, o_indexAddrS es_22, o_fieldAddr fa_89_0 (by decide), o_indexAddrA ea_83, o_indexAddrA ea_82, o_build za_35 pl_35, o_fieldAddr fa_89_1 (by decide), o_indexAddrA ea_87, o_indexAddrA ea_86, loadA_eq ia_85, o_fieldAddr fa_59_0 (by decide), loadA_eq ia_5, o_convI cv_5_3, o_fieldAddr fa_59_1 (by decide), o_fieldAddr fa_59_2 (by decide), o_build za_24 pl_24, o_fieldAddr fa_59_3 (by decide), loadA_eq ia_57, lenA_sl lk_57, o_indexAddrS es_57, ze_22, o_buildSlice es_22 ze_22 (by decide) ba_22_1, ap_22, builtin_append ni_22, sz_22, o_indexAddrA ea_60, za_3, sz_3, za_89, o_build za_89 pl_89, za_90, sz_90, za_79, sz_79, loadA_eq ia_79, loadA_eq ia_90, lenA_sl lk_101, o_indexAddrS es_101, sz_85, o_mkI ii_93, ze_101, o_buildSlice es_101 ze_101 (by decide) ba_101_1, ap_101, builtin_append ni_101, o_mkI ii_94, za_103, o_build za_103 pl_103, o_indexAddrS es_104, ze_104, o_buildSlice es_104 ze_104 (by decide) ba_104_4, lenA_sl lk_104, loadA_eq ia_103, sz_103, o_fieldAddr fa_103_2 (by decide), o_fieldAddr fa_103_0 (by decide), o_fieldAddr fa_103_1 (by decide), optAll]
end
end Go.Proofs.Ytgpcjdhlijompaa.ore
namespace Go.Proofs.Ytgpcjdhlijompaa.ore
open Go.GE
set_option linter.unusedVariables false
set_option linter.unusedSimpArgs false
set_option maxRecDepth 100000
theorem callT {f : FuncId} {w hh o : Int} {b off n c : Nat} {vs : List Value} {v : Value} {h : List Blk} {cs : List Value} {own : Bool} (hb : h[b]? = some (.cells cs 1 true own)) (hv : vs.all plain = true)
    (he : LL.run f (fv w hh o 0 off n c :: vs) [.cells cs 1 true own] = some ⟨v, [], []⟩) (hp : ∀ g, renV g dep v = some v) : callH LL f (fv w hh o b off n c :: vs) h = some ⟨v, h, [b], []⟩ := by
  unfold callH
  rw [ptr_fv2 hv, reach_one hb rfl (by decide)]
  simp only [ren_fv2 (w := w) (hh := hh) (o := o) (b := b) (off := off) (n := n) (c := c) hv]
  simp only [optAll, hb, renB, he]
  simp [mergeB, hp, optAll]
theorem FindS.trip {w hh o : Int} {n : Nat} {X Y W H : Int} {nd : Nat → Int} {v : Value} (h : FindS w hh o n X Y W H nd v) : ∃ a b c d r e, v = ore.trip a b c d r e := by
  rcases h with ⟨_, rfl⟩ | ⟨_, _, rfl⟩ | ⟨_, _, _, _, x, y, r, rfl, _⟩
  · exact ⟨_, _, _, _, _, _, rfl⟩
  · exact ⟨_, _, _, _, _, _, rfl⟩
  · exact ⟨_, _, _, _, _, _, rfl⟩
end Go.Proofs.Ytgpcjdhlijompaa.ore
namespace Go.Proofs.Ytgpcjdhlijompaa.ore
open Go.GE
set_option linter.unusedVariables false
set_option linter.unusedSimpArgs false
set_option maxRecDepth 100000
theorem k34 (X Y W H : Int) (h : List Blk) : callH LL 34 [iv X, iv Y, iv W, iv H] h = some ⟨bv X Y W H, h, [], []⟩ := by
  refine callH_plain (go (by decide) ?_) rfl rfl
  rw [run34 _ _ _ (by simp)]
  simp (disch := first | omega | decide | assumption | simp [scal]) [runOps_nil, runOps_cons, runOpsF_nil, runOpsF_cons, fstS_some, fstF_some, opStep_eq, want_none, oStep_true, oStep_false, fin_pure, fin_read, fin_alloc, fin_write, storeB, wrN, cellV, addWr, o_move, o_assign, o_pick, o_alloc, o_box, o_load, o_store, o_nilCheck, o_bin, o_un, o_extract, o_callV, o_callB, o_callI, callV_f, callV_y, callV_fc, o_makeFunc, partsA, Instr.fill, builtin_len, builtin_max2, bin_add, bin_sub, bin_mul, bin_quo, bin_rem, bin_lss, bin_leq, bin_gtr, bin_geq, bin_eql, bin_neq, un_neg, un_not, opd, opds, optAll, lk, putO, put, has, rep, nbeq, nblt, constOk, isC, ops, sub, cl, cr, co, bodyOf, thenS_normal, thenS_ret, thenS_exit, thenS_goto, afterN_normal, afterN_ret, afterN_exit, afterN_goto, condS_true, condS_false, blockS_normal, blockS_ret, blockS_exit, blockS_goto, loopS_exit, loopS_ret, plainS_some, drawS_some, fpsOk, disj, unord, mem, range', dropTo, enumT, undef, wrap_i64_id, Value.cells, mkCells, ptrTo, scal, cellsAt, rdN, endS_ret, resultsA, Option.bind_some, tupV, finish, reach, reachN, dep, ptrL_eq, ptrL, renL_eq, renL, ptrV_bool, ptrV_int, ptrV_string, ptrV_nilFunc, ptrV_nilIface, ptrV_nilPtr, ptrV_ptr, ptrV_nilSl, ptrV_sl, ptrV_iface, ptrV_agg, ptrV_tuple, ptrV_func, renV_bool, renV_int, renV_string, renV_nilFunc, renV_nilIface, renV_nilPtr, renV_ptr, renV_nilSl, renV_sl, renV_iface, renV_agg, renV_tuple, renV_func, za_35, o_build za_35 pl_35, sz_35, loadA_eq ia_35, n34_1s, n34_3s, n34_4s, n34_2s, n34_0s, Try.f34]
/-- the law's own turn -/
theorem k50 (a b : Int) (ha : isN a) (hb : isN b) (hne : turnS a b ≠ 1800) (h : List Blk) : callH LL 50 [iv a, iv b] h = some ⟨iv (turnS a b), h, [], []⟩ := by
  obtain ⟨h1, h2⟩ := ha; obtain ⟨h3, h4⟩ := hb
  refine callH_plain (go (by decide) ?_) rfl rfl
  have e : Int.tmod (b - a) 3600 = b - a := by
    rcases Int.le_total 0 (b - a) with h | h
    · rw [Int.tmod_eq_emod_of_nonneg h]; omega
    · have : Int.tmod (b - a) 3600 = -Int.tmod (a - b) 3600 := by rw [← Int.neg_tmod]; congr 1; omega
      rw [this, Int.tmod_eq_emod_of_nonneg (by omega)]; omega
  rw [run50 _ _ _ (by simp)]
  have x1 : ∀ d : Int, ¬ 1800 < d → codeB Try.prog LL ⟨50, 19, 0, none⟩ n50_6 ⟨[(5, iv d), (9, iv (b - a)), (8, iv (b - a)), (7, iv a), (6, iv b), (4, iv 0), (0, iv a), (1, iv b)], [], []⟩ =
      some (.exit 0, ⟨[(11, .bool false), (10, iv d), (5, iv d), (9, iv (b - a)), (8, iv (b - a)), (7, iv a), (6, iv b), (4, iv 0), (0, iv a), (1, iv b)], [], []⟩) := by
    intro d hd
    rw [n50_6s]
    simp (disch := first | omega | decide | assumption | simp [scal]) [runOps_nil, runOps_cons, runOpsF_nil, runOpsF_cons, fstS_some, fstF_some, opStep_eq, want_none, oStep_true, oStep_false, fin_pure, fin_read, fin_alloc, fin_write, storeB, wrN, cellV, addWr, o_move, o_assign, o_pick, o_alloc, o_box, o_load, o_store, o_nilCheck, o_bin, o_un, o_extract, o_callV, o_callB, o_callI, callV_f, callV_y, callV_fc, o_makeFunc, partsA, Instr.fill, builtin_len, builtin_max2, bin_add, bin_sub, bin_mul, bin_quo, bin_rem, bin_lss, bin_leq, bin_gtr, bin_geq, bin_eql, bin_neq, un_neg, un_not, opd, opds, optAll, lk, putO, put, has, rep, nbeq, nblt, constOk, isC, ops, sub, cl, cr, co, bodyOf, thenS_normal, thenS_ret, thenS_exit, thenS_goto, afterN_normal, afterN_ret, afterN_exit, afterN_goto, condS_true, condS_false, blockS_normal, blockS_ret, blockS_exit, blockS_goto, loopS_exit, loopS_ret, plainS_some, drawS_some, fpsOk, disj, unord, mem, range', dropTo, enumT, undef, wrap_i64_id, Value.cells, mkCells, ptrTo, scal, cellsAt, rdN, endS_ret, resultsA, Option.bind_some, tupV, finish, reach, reachN, dep, ptrL_eq, ptrL, renL_eq, renL, ptrV_bool, ptrV_int, ptrV_string, ptrV_nilFunc, ptrV_nilIface, ptrV_nilPtr, ptrV_ptr, ptrV_nilSl, ptrV_sl, ptrV_iface, ptrV_agg, ptrV_tuple, ptrV_func, renV_bool, renV_int, renV_string, renV_nilFunc, renV_nilIface, renV_nilPtr, renV_ptr, renV_nilSl, renV_sl, renV_iface, renV_agg, renV_tuple, renV_func, n50_1s, n50_3s, n50_9s, n50_11s, n50_12s, n50_10s, n50_8s, n50_14s, n50_13s, n50_7s, n50_5s, n50_20s, n50_22s, n50_23s, n50_21s, n50_19s, n50_25s, n50_24s, n50_18s, n50_16s, n50_27s, n50_28s, n50_26s, n50_15s, n50_4s, n50_2s, n50_0s, Try.f50, hd]
  have x2 : ∀ d : Int, ¬ d < -1800 → codeB Try.prog LL ⟨50, 19, 0, none⟩ n50_17 ⟨[(5, iv d), (9, iv (b - a)), (8, iv (b - a)), (7, iv a), (6, iv b), (4, iv 0), (0, iv a), (1, iv b)], [], []⟩ =
      some (.exit 2, ⟨[(15, .bool false), (14, iv d), (5, iv d), (9, iv (b - a)), (8, iv (b - a)), (7, iv a), (6, iv b), (4, iv 0), (0, iv a), (1, iv b)], [], []⟩) := by
    intro d hd
    rw [n50_17s]
    simp (disch := first | omega | decide | assumption | simp [scal]) [runOps_nil, runOps_cons, runOpsF_nil, runOpsF_cons, fstS_some, fstF_some, opStep_eq, want_none, oStep_true, oStep_false, fin_pure, fin_read, fin_alloc, fin_write, storeB, wrN, cellV, addWr, o_move, o_assign, o_pick, o_alloc, o_box, o_load, o_store, o_nilCheck, o_bin, o_un, o_extract, o_callV, o_callB, o_callI, callV_f, callV_y, callV_fc, o_makeFunc, partsA, Instr.fill, builtin_len, builtin_max2, bin_add, bin_sub, bin_mul, bin_quo, bin_rem, bin_lss, bin_leq, bin_gtr, bin_geq, bin_eql, bin_neq, un_neg, un_not, opd, opds, optAll, lk, putO, put, has, rep, nbeq, nblt, constOk, isC, ops, sub, cl, cr, co, bodyOf, thenS_normal, thenS_ret, thenS_exit, thenS_goto, afterN_normal, afterN_ret, afterN_exit, afterN_goto, condS_true, condS_false, blockS_normal, blockS_ret, blockS_exit, blockS_goto, loopS_exit, loopS_ret, plainS_some, drawS_some, fpsOk, disj, unord, mem, range', dropTo, enumT, undef, wrap_i64_id, Value.cells, mkCells, ptrTo, scal, cellsAt, rdN, endS_ret, resultsA, Option.bind_some, tupV, finish, reach, reachN, dep, ptrL_eq, ptrL, renL_eq, renL, ptrV_bool, ptrV_int, ptrV_string, ptrV_nilFunc, ptrV_nilIface, ptrV_nilPtr, ptrV_ptr, ptrV_nilSl, ptrV_sl, ptrV_iface, ptrV_agg, ptrV_tuple, ptrV_func, renV_bool, renV_int, renV_string, renV_nilFunc, renV_nilIface, renV_nilPtr, renV_ptr, renV_nilSl, renV_sl, renV_iface, renV_agg, renV_tuple, renV_func, n50_1s, n50_3s, n50_9s, n50_11s, n50_12s, n50_10s, n50_8s, n50_14s, n50_13s, n50_7s, n50_5s, n50_20s, n50_22s, n50_23s, n50_21s, n50_19s, n50_25s, n50_24s, n50_18s, n50_16s, n50_27s, n50_28s, n50_26s, n50_15s, n50_4s, n50_2s, n50_0s, Try.f50, hd]
  by_cases c1 : 1800 < b - a
  · have et : turnS a b = b - a - 3600 := by unfold turnS; omega
    have c2 : ¬ (1800 < b - a - 3600) := by omega
    have c3 : ¬ (b - a - 3600 < -1800) := by omega
    have y1 : codeB Try.prog LL ⟨50, 19, 0, none⟩ n50_6 ⟨[(5, iv (b - a)), (9, iv (b - a)), (8, iv (b - a)), (7, iv a), (6, iv b), (4, iv 0), (0, iv a), (1, iv b)], [], []⟩ = some (.exit 0, ⟨[(11, .bool false), (10, iv (b - a - 3600)), (5, iv (b - a - 3600)), (9, iv (b - a)), (8, iv (b - a)), (7, iv a), (6, iv b), (4, iv 0), (0, iv a), (1, iv b)], [], []⟩) := by
      have this := L_code (x1 _ c2)
      rw [n50_6s]
      simp (disch := first | omega | decide | assumption | simp [scal]) [runOps_nil, runOps_cons, runOpsF_nil, runOpsF_cons, fstS_some, fstF_some, opStep_eq, want_none, oStep_true, oStep_false, fin_pure, fin_read, fin_alloc, fin_write, storeB, wrN, cellV, addWr, o_move, o_assign, o_pick, o_alloc, o_box, o_load, o_store, o_nilCheck, o_bin, o_un, o_extract, o_callV, o_callB, o_callI, callV_f, callV_y, callV_fc, o_makeFunc, partsA, Instr.fill, builtin_len, builtin_max2, bin_add, bin_sub, bin_mul, bin_quo, bin_rem, bin_lss, bin_leq, bin_gtr, bin_geq, bin_eql, bin_neq, un_neg, un_not, opd, opds, optAll, lk, putO, put, has, rep, nbeq, nblt, constOk, isC, ops, sub, cl, cr, co, bodyOf, thenS_normal, thenS_ret, thenS_exit, thenS_goto, afterN_normal, afterN_ret, afterN_exit, afterN_goto, condS_true, condS_false, blockS_normal, blockS_ret, blockS_exit, blockS_goto, loopS_exit, loopS_ret, plainS_some, drawS_some, fpsOk, disj, unord, mem, range', dropTo, enumT, undef, wrap_i64_id, Value.cells, mkCells, ptrTo, scal, cellsAt, rdN, endS_ret, resultsA, Option.bind_some, tupV, finish, reach, reachN, dep, ptrL_eq, ptrL, renL_eq, renL, ptrV_bool, ptrV_int, ptrV_string, ptrV_nilFunc, ptrV_nilIface, ptrV_nilPtr, ptrV_ptr, ptrV_nilSl, ptrV_sl, ptrV_iface, ptrV_agg, ptrV_tuple, ptrV_func, renV_bool, renV_int, renV_string, renV_nilFunc, renV_nilIface, renV_nilPtr, renV_ptr, renV_nilSl, renV_sl, renV_iface, renV_agg, renV_tuple, renV_func, n50_1s, n50_3s, n50_9s, n50_11s, n50_12s, n50_10s, n50_8s, n50_14s, n50_13s, n50_7s, n50_5s, n50_20s, n50_22s, n50_23s, n50_21s, n50_19s, n50_25s, n50_24s, n50_18s, n50_16s, n50_27s, n50_28s, n50_26s, n50_15s, n50_4s, n50_2s, n50_0s, Try.f50, c1, loopS_same, this]
    have z1 := x2 _ c3
    rw [et]
    simp (disch := first | omega | decide | assumption | simp [scal]) [runOps_nil, runOps_cons, runOpsF_nil, runOpsF_cons, fstS_some, fstF_some, opStep_eq, want_none, oStep_true, oStep_false, fin_pure, fin_read, fin_alloc, fin_write, storeB, wrN, cellV, addWr, o_move, o_assign, o_pick, o_alloc, o_box, o_load, o_store, o_nilCheck, o_bin, o_un, o_extract, o_callV, o_callB, o_callI, callV_f, callV_y, callV_fc, o_makeFunc, partsA, Instr.fill, builtin_len, builtin_max2, bin_add, bin_sub, bin_mul, bin_quo, bin_rem, bin_lss, bin_leq, bin_gtr, bin_geq, bin_eql, bin_neq, un_neg, un_not, opd, opds, optAll, lk, putO, put, has, rep, nbeq, nblt, constOk, isC, ops, sub, cl, cr, co, bodyOf, thenS_normal, thenS_ret, thenS_exit, thenS_goto, afterN_normal, afterN_ret, afterN_exit, afterN_goto, condS_true, condS_false, blockS_normal, blockS_ret, blockS_exit, blockS_goto, loopS_exit, loopS_ret, plainS_some, drawS_some, fpsOk, disj, unord, mem, range', dropTo, enumT, undef, wrap_i64_id, Value.cells, mkCells, ptrTo, scal, cellsAt, rdN, endS_ret, resultsA, Option.bind_some, tupV, finish, reach, reachN, dep, ptrL_eq, ptrL, renL_eq, renL, ptrV_bool, ptrV_int, ptrV_string, ptrV_nilFunc, ptrV_nilIface, ptrV_nilPtr, ptrV_ptr, ptrV_nilSl, ptrV_sl, ptrV_iface, ptrV_agg, ptrV_tuple, ptrV_func, renV_bool, renV_int, renV_string, renV_nilFunc, renV_nilIface, renV_nilPtr, renV_ptr, renV_nilSl, renV_sl, renV_iface, renV_agg, renV_tuple, renV_func, n50_1s, n50_3s, n50_9s, n50_11s, n50_12s, n50_10s, n50_8s, n50_14s, n50_13s, n50_7s, n50_5s, n50_20s, n50_22s, n50_23s, n50_21s, n50_19s, n50_25s, n50_24s, n50_18s, n50_16s, n50_27s, n50_28s, n50_26s, n50_15s, n50_4s, n50_2s, n50_0s, Try.f50, e, y1, z1]
  · have y1 := x1 _ c1
    by_cases c3 : b - a < -1800
    · have et : turnS a b = b - a + 3600 := by unfold turnS; omega
      have c4 : ¬ (b - a + 3600 < -1800) := by omega
      have z1 : codeB Try.prog LL ⟨50, 19, 0, none⟩ n50_17 ⟨[(5, iv (b - a)), (9, iv (b - a)), (8, iv (b - a)), (7, iv a), (6, iv b), (4, iv 0), (0, iv a), (1, iv b)], [], []⟩ = some (.exit 2, ⟨[(15, .bool false), (14, iv (b - a + 3600)), (5, iv (b - a + 3600)), (9, iv (b - a)), (8, iv (b - a)), (7, iv a), (6, iv b), (4, iv 0), (0, iv a), (1, iv b)], [], []⟩) := by
        have this := L_code (x2 _ c4)
        rw [n50_17s]
        simp (disch := first | omega | decide | assumption | simp [scal]) [runOps_nil, runOps_cons, runOpsF_nil, runOpsF_cons, fstS_some, fstF_some, opStep_eq, want_none, oStep_true, oStep_false, fin_pure, fin_read, fin_alloc, fin_write, storeB, wrN, cellV, addWr, o_move, o_assign, o_pick, o_alloc, o_box, o_load, o_store, o_nilCheck, o_bin, o_un, o_extract, o_callV, o_callB, o_callI, callV_f, callV_y, callV_fc, o_makeFunc, partsA, Instr.fill, builtin_len, builtin_max2, bin_add, bin_sub, bin_mul, bin_quo, bin_rem, bin_lss, bin_leq, bin_gtr, bin_geq, bin_eql, bin_neq, un_neg, un_not, opd, opds, optAll, lk, putO, put, has, rep, nbeq, nblt, constOk, isC, ops, sub, cl, cr, co, bodyOf, thenS_normal, thenS_ret, thenS_exit, thenS_goto, afterN_normal, afterN_ret, afterN_exit, afterN_goto, condS_true, condS_false, blockS_normal, blockS_ret, blockS_exit, blockS_goto, loopS_exit, loopS_ret, plainS_some, drawS_some, fpsOk, disj, unord, mem, range', dropTo, enumT, undef, wrap_i64_id, Value.cells, mkCells, ptrTo, scal, cellsAt, rdN, endS_ret, resultsA, Option.bind_some, tupV, finish, reach, reachN, dep, ptrL_eq, ptrL, renL_eq, renL, ptrV_bool, ptrV_int, ptrV_string, ptrV_nilFunc, ptrV_nilIface, ptrV_nilPtr, ptrV_ptr, ptrV_nilSl, ptrV_sl, ptrV_iface, ptrV_agg, ptrV_tuple, ptrV_func, renV_bool, renV_int, renV_string, renV_nilFunc, renV_nilIface, renV_nilPtr, renV_ptr, renV_nilSl, renV_sl, renV_iface, renV_agg, renV_tuple, renV_func, n50_1s, n50_3s, n50_9s, n50_11s, n50_12s, n50_10s, n50_8s, n50_14s, n50_13s, n50_7s, n50_5s, n50_20s, n50_22s, n50_23s, n50_21s, n50_19s, n50_25s, n50_24s, n50_18s, n50_16s, n50_27s, n50_28s, n50_26s, n50_15s, n50_4s, n50_2s, n50_0s, Try.f50, c3, loopS_same, this]
      rw [et]
      simp (disch := first | omega | decide | assumption | simp [scal]) [runOps_nil, runOps_cons, runOpsF_nil, runOpsF_cons, fstS_some, fstF_some, opStep_eq, want_none, oStep_true, oStep_false, fin_pure, fin_read, fin_alloc, fin_write, storeB, wrN, cellV, addWr, o_move, o_assign, o_pick, o_alloc, o_box, o_load, o_store, o_nilCheck, o_bin, o_un, o_extract, o_callV, o_callB, o_callI, callV_f, callV_y, callV_fc, o_makeFunc, partsA, Instr.fill, builtin_len, builtin_max2, bin_add, bin_sub, bin_mul, bin_quo, bin_rem, bin_lss, bin_leq, bin_gtr, bin_geq, bin_eql, bin_neq, un_neg, un_not, opd, opds, optAll, lk, putO, put, has, rep, nbeq, nblt, constOk, isC, ops, sub, cl, cr, co, bodyOf, thenS_normal, thenS_ret, thenS_exit, thenS_goto, afterN_normal, afterN_ret, afterN_exit, afterN_goto, condS_true, condS_false, blockS_normal, blockS_ret, blockS_exit, blockS_goto, loopS_exit, loopS_ret, plainS_some, drawS_some, fpsOk, disj, unord, mem, range', dropTo, enumT, undef, wrap_i64_id, Value.cells, mkCells, ptrTo, scal, cellsAt, rdN, endS_ret, resultsA, Option.bind_some, tupV, finish, reach, reachN, dep, ptrL_eq, ptrL, renL_eq, renL, ptrV_bool, ptrV_int, ptrV_string, ptrV_nilFunc, ptrV_nilIface, ptrV_nilPtr, ptrV_ptr, ptrV_nilSl, ptrV_sl, ptrV_iface, ptrV_agg, ptrV_tuple, ptrV_func, renV_bool, renV_int, renV_string, renV_nilFunc, renV_nilIface, renV_nilPtr, renV_ptr, renV_nilSl, renV_sl, renV_iface, renV_agg, renV_tuple, renV_func, n50_1s, n50_3s, n50_9s, n50_11s, n50_12s, n50_10s, n50_8s, n50_14s, n50_13s, n50_7s, n50_5s, n50_20s, n50_22s, n50_23s, n50_21s, n50_19s, n50_25s, n50_24s, n50_18s, n50_16s, n50_27s, n50_28s, n50_26s, n50_15s, n50_4s, n50_2s, n50_0s, Try.f50, e, y1, z1]
    · have et : turnS a b = b - a := by unfold turnS at *; omega
      have z1 := x2 _ c3
      rw [et]
      simp (disch := first | omega | decide | assumption | simp [scal]) [runOps_nil, runOps_cons, runOpsF_nil, runOpsF_cons, fstS_some, fstF_some, opStep_eq, want_none, oStep_true, oStep_false, fin_pure, fin_read, fin_alloc, fin_write, storeB, wrN, cellV, addWr, o_move, o_assign, o_pick, o_alloc, o_box, o_load, o_store, o_nilCheck, o_bin, o_un, o_extract, o_callV, o_callB, o_callI, callV_f, callV_y, callV_fc, o_makeFunc, partsA, Instr.fill, builtin_len, builtin_max2, bin_add, bin_sub, bin_mul, bin_quo, bin_rem, bin_lss, bin_leq, bin_gtr, bin_geq, bin_eql, bin_neq, un_neg, un_not, opd, opds, optAll, lk, putO, put, has, rep, nbeq, nblt, constOk, isC, ops, sub, cl, cr, co, bodyOf, thenS_normal, thenS_ret, thenS_exit, thenS_goto, afterN_normal, afterN_ret, afterN_exit, afterN_goto, condS_true, condS_false, blockS_normal, blockS_ret, blockS_exit, blockS_goto, loopS_exit, loopS_ret, plainS_some, drawS_some, fpsOk, disj, unord, mem, range', dropTo, enumT, undef, wrap_i64_id, Value.cells, mkCells, ptrTo, scal, cellsAt, rdN, endS_ret, resultsA, Option.bind_some, tupV, finish, reach, reachN, dep, ptrL_eq, ptrL, renL_eq, renL, ptrV_bool, ptrV_int, ptrV_string, ptrV_nilFunc, ptrV_nilIface, ptrV_nilPtr, ptrV_ptr, ptrV_nilSl, ptrV_sl, ptrV_iface, ptrV_agg, ptrV_tuple, ptrV_func, renV_bool, renV_int, renV_string, renV_nilFunc, renV_nilIface, renV_nilPtr, renV_ptr, renV_nilSl, renV_sl, renV_iface, renV_agg, renV_tuple, renV_func, n50_1s, n50_3s, n50_9s, n50_11s, n50_12s, n50_10s, n50_8s, n50_14s, n50_13s, n50_7s, n50_5s, n50_20s, n50_22s, n50_23s, n50_21s, n50_19s, n50_25s, n50_24s, n50_18s, n50_16s, n50_27s, n50_28s, n50_26s, n50_15s, n50_4s, n50_2s, n50_0s, Try.f50, e, y1, z1]
end Go.Proofs.Ytgpcjdhlijompaa.ore
namespace Go.Proofs.Ytgpcjdhlijompaa.ore
open Go.GE
set_option linter.unusedVariables false
set_option linter.unusedSimpArgs false
set_option maxRecDepth 100000
/-- a land -/
abbrev u8 (a : Nat) : Value := .int .u8 a
abbrev ldv (a b d : Nat) (blk off n c : Nat) : Value := .agg #[u8 a, u8 b, u8 d, .slice (some ⟨blk, off, none⟩) n c]
abbrev ldn (a b d : Nat) : Value := .agg #[u8 a, u8 b, u8 d, .slice none 0 0]
theorem tm4 (x : Nat) : Int.tmod (x : Int) 4 = ((x % 4 : Nat) : Int) := rfl
theorem td4 (x : Nat) : Int.tdiv (x : Int) 4 = ((x / 4 : Nat) : Int) := rfl
theorem tm20d (x : Nat) : Int.tmod ((x : Int) / 4) 20 = (x : Int) / 4 % 20 := rfl
/-- a block of needles -/
def nB (f : Nat → Int) (n : Nat) : Blk := .cells ((List.range n).map fun i => iv (f i)) 1 true true
theorem ptrB_nB {f : Nat → Int} {n : Nat} : ptrB (nB f n) = [] := rfl
theorem renB_nB {g : Nat → Option Nat} {f : Nat → Int} {n : Nat} : renB g (nB f n) = some (nB f n) := rfl
theorem nB_one {f : Nat → Int} {x : Int} (h : f 0 = x) : Blk.cells [iv x] 1 true true = nB f 1 := by subst h; rfl
theorem app_nB {h : List Blk} {b c n : Nat} {f : Nat → Int} {x : Int} {rd : List Nat} (hl : n ≤ 1000) (hx : f n = x) : appS h 1 8 b 0 n c (some (nB f n)) (some (1, [iv x], true, rd)) =
    some ⟨.slice (some ⟨h.length, 0, none⟩) (n + 1) (n + 1), h.set b .dead ++ [nB f (n + 1)], b :: rd, [b]⟩ := by
  have hr := rdN_all ((List.range n).map fun i => iv (f i)) (n * 1) 0 (by simp)
  simp only [appS, nB, hr, List.drop_zero]
  rw [if_pos (by refine ⟨by omega, by omega, ?_, ?_⟩ <;> first | trivial | rfl)]
  simp [List.range_succ, hx]
/-- the needles of a land -/
def ndl31 (m : Nat) (rw : Nat → Nat) (i : Nat) : Int := if i < m then (rw i : Int) % 4 * 800 + (rw i : Int) / 4 % 20 else 0
section
variable (a b d W HH : Nat) (O : Int) (off n c : Nat) (cs : List Value) (own : Bool) (rw : Nat → Nat)
def A31 (i : Int) : Tm := [(4, iv i), (3, .pointer (some ⟨3, 0, none⟩)), (20, .agg #[iv W, iv HH, iv O, .slice none 0 0]), (19, iv O), (18, iv d), (17, u8 d), (16, .pointer (some ⟨1, 2, none⟩)), (15, iv HH), (14, iv (Int.tmod b 5)), (13, iv b), (12, u8 b),
  (11, .pointer (some ⟨1, 1, none⟩)), (10, iv W), (9, iv (Int.tmod a 5)), (8, iv a), (7, u8 a), (6, .pointer (some ⟨1, 0, none⟩)), (2, .pointer (some ⟨2, 0, none⟩)), (1, .pointer (some ⟨1, 0, none⟩)), (0, ldv a b d 0 off n c)]
def B31 (i : Int) : Tm := [(4, iv i), (3, .pointer (some ⟨1, 0, none⟩)), (20, .agg #[iv W, iv HH, iv O, .slice none 0 0]), (19, iv O), (18, iv d), (17, u8 d), (16, .pointer (some ⟨3, 2, none⟩)), (15, iv HH), (14, iv (Int.tmod b 5)), (13, iv b), (12, u8 b),
  (11, .pointer (some ⟨3, 1, none⟩)), (10, iv W), (9, iv (Int.tmod a 5)), (8, iv a), (7, u8 a), (6, .pointer (some ⟨3, 0, none⟩)), (2, .pointer (some ⟨4, 0, none⟩)), (1, .pointer (some ⟨3, 0, none⟩)), (0, ldv a b d 0 off n c)]
def land : Blk := .cells [u8 a, u8 b, u8 d, .slice (some ⟨0, off, none⟩) n c] 1 false true
def GA : List Blk := [.cells cs 1 true own, land a b d off n c, .cells [iv 0, iv 0, iv 0, .slice none 0 0] 1 false true, .cells [iv W, iv HH, iv O, .slice none 0 0] 1 false true]
def GB (i : Nat) : List Blk := [.cells cs 1 true own, fb W HH O (2) 0 i i, nB (ndl31 n rw) i, land a b d off n c, .cells [iv 0, iv 0, iv 0, .slice none 0 0] 1 false true]
theorem loop31 (hW : 2 ≤ W ∧ W ≤ 6) (hH : 2 ≤ HH ∧ HH ≤ 6) (ho : 0 ≤ O ∧ O < 80) (hcs : ∀ i, i < n → cs[off + i]? = some (u8 (rw i))) (hrw : ∀ i, i < n → rw i < 256) : ∀ k i : Nat, 1 ≤ i → i + k = W * HH →
    codeB Try.prog LL ⟨31, 59, 1, none⟩ n31_8 ⟨B31 a b d W HH O off n c i, GB a b d W HH O off n c cs own rw i, []⟩ = some (.exit 0, ⟨[(27, .bool false), (26, iv (W * HH : Nat)), (25, iv HH), (24, .pointer (some ⟨1, 1, none⟩)), (23, iv W), (22, .pointer (some ⟨1, 0, none⟩)), (21, iv (W * HH : Nat))] ++ B31 a b d W HH O off n c (W * HH : Nat), GB a b d W HH O off n c cs own rw (W * HH), []⟩) := by
  intro k
  induction k with
  | zero =>
    intro i h1 hi
    obtain rfl : i = W * HH := by omega
    have e0 : (W : Int) * HH = ((W * HH : Nat) : Int) := by simp
    have hm := Nat.mul_le_mul hW.2 hH.2
    generalize W * HH = z at *
    have e1 : ¬ (z : Int) < z := by omega
    rw [n31_8s]
    simp only [B31, GB, land, List.cons_append, List.nil_append]
    simp (disch := first | omega | decide | assumption | simp [scal]) [runOps_nil, runOps_cons, runOpsF_nil, runOpsF_cons, fstS_some, fstF_some, opStep_eq, want_none, oStep_true, oStep_false, fin_pure, fin_read, fin_alloc, fin_write, storeB, wrN, cellV, addWr, o_move, o_assign, o_pick, o_alloc, o_box, o_load, o_store, o_nilCheck, o_bin, o_un, o_extract, o_callV, o_callB, o_callI, callV_f, callV_y, callV_fc, o_makeFunc, partsA, Instr.fill, builtin_len, builtin_max2, bin_add, bin_sub, bin_mul, bin_quo, bin_rem, bin_lss, bin_leq, bin_gtr, bin_geq, bin_eql, bin_neq, un_neg, un_not, opd, opds, optAll, lk, putO, put, has, rep, nbeq, nblt, constOk, isC, ops, sub, cl, cr, co, bodyOf, thenS_normal, thenS_ret, thenS_exit, thenS_goto, afterN_normal, afterN_ret, afterN_exit, afterN_goto, condS_true, condS_false, blockS_normal, blockS_ret, blockS_exit, blockS_goto, loopS_exit, loopS_ret, plainS_some, drawS_some, fpsOk, disj, unord, mem, range', dropTo, enumT, undef, wrap_i64_id, Value.cells, mkCells, ptrTo, scal, cellsAt, rdN, endS_ret, resultsA, Option.bind_some, tupV, finish, reach, reachN, dep, ptrL_eq, ptrL, renL_eq, renL, ptrV_bool, ptrV_int, ptrV_string, ptrV_nilFunc, ptrV_nilIface, ptrV_nilPtr, ptrV_ptr, ptrV_nilSl, ptrV_sl, ptrV_iface, ptrV_agg, ptrV_tuple, ptrV_func, renV_bool, renV_int, renV_string, renV_nilFunc, renV_nilIface, renV_nilPtr, renV_ptr, renV_nilSl, renV_sl, renV_iface, renV_agg, renV_tuple, renV_func, za_24, o_fieldAddr fa_59_0 (by decide), loadA_eq ia_5, o_convI cv_5_3, o_fieldAddr fa_59_1 (by decide), o_fieldAddr fa_59_2 (by decide), o_build za_24 pl_24, sz_24, o_fieldAddr fa_24_0 (by decide), loadA_eq ia_3, o_fieldAddr fa_24_1 (by decide), o_fieldAddr fa_59_3 (by decide), loadA_eq ia_57, lenA_sl lk_57, o_indexAddrS es_57, o_fieldAddr fa_24_3 (by decide), loadA_eq ia_22, o_indexAddrS es_22, ze_22, o_buildSlice es_22 ze_22 (by decide) ba_22_1, ap_22, builtin_append ni_22, sz_22, loadA_eq ia_24, n31_1s, n31_3s, n31_6s, n31_11s, n31_13s, n31_14s, n31_12s, n31_10s, n31_18s, n31_21s, n31_23s, n31_24s, n31_22s, n31_20s, n31_25s, n31_19s, n31_17s, n31_16s, n31_26s, n31_15s, n31_9s, n31_7s, n31_5s, n31_28s, n31_29s, n31_27s, n31_4s, n31_2s, n31_0s, Try.f31, e0, e1]
  | succ k ih =>
    intro i h1 hi
    have this := L_code (ih (i + 1) (by omega) (by omega))
    have e0 : (W : Int) * HH = ((W * HH : Nat) : Int) := by simp
    have hm := Nat.mul_le_mul hW.2 hH.2
    generalize W * HH = z at *
    have e1 : i < z := by omega
    have c1 := fun x hx h b c rd => app_nB (h := h) (b := b) (c := c) (n := i) (f := ndl31 n rw) (x := x) (rd := rd) (by omega) hx
    rw [n31_8s]
    simp only [B31, GB, land, cast1, List.cons_append, List.nil_append] at this ⊢
    by_cases hin : i < n
    · have hr := hrw i hin
      have hb := hcs i hin
      have c1 := c1 _ (by unfold ndl31; rw [if_pos hin])
      simp (disch := first | omega | decide | assumption | simp [scal]) [runOps_nil, runOps_cons, runOpsF_nil, runOpsF_cons, fstS_some, fstF_some, opStep_eq, want_none, oStep_true, oStep_false, fin_pure, fin_read, fin_alloc, fin_write, storeB, wrN, cellV, addWr, o_move, o_assign, o_pick, o_alloc, o_box, o_load, o_store, o_nilCheck, o_bin, o_un, o_extract, o_callV, o_callB, o_callI, callV_f, callV_y, callV_fc, o_makeFunc, partsA, Instr.fill, builtin_len, builtin_max2, bin_add, bin_sub, bin_mul, bin_quo, bin_rem, bin_lss, bin_leq, bin_gtr, bin_geq, bin_eql, bin_neq, un_neg, un_not, opd, opds, optAll, lk, putO, put, has, rep, nbeq, nblt, constOk, isC, ops, sub, cl, cr, co, bodyOf, thenS_normal, thenS_ret, thenS_exit, thenS_goto, afterN_normal, afterN_ret, afterN_exit, afterN_goto, condS_true, condS_false, blockS_normal, blockS_ret, blockS_exit, blockS_goto, loopS_exit, loopS_ret, plainS_some, drawS_some, fpsOk, disj, unord, mem, range', dropTo, enumT, undef, wrap_i64_id, Value.cells, mkCells, ptrTo, scal, cellsAt, rdN, endS_ret, resultsA, Option.bind_some, tupV, finish, reach, reachN, dep, ptrL_eq, ptrL, renL_eq, renL, ptrV_bool, ptrV_int, ptrV_string, ptrV_nilFunc, ptrV_nilIface, ptrV_nilPtr, ptrV_ptr, ptrV_nilSl, ptrV_sl, ptrV_iface, ptrV_agg, ptrV_tuple, ptrV_func, renV_bool, renV_int, renV_string, renV_nilFunc, renV_nilIface, renV_nilPtr, renV_ptr, renV_nilSl, renV_sl, renV_iface, renV_agg, renV_tuple, renV_func, za_24, o_fieldAddr fa_59_0 (by decide), loadA_eq ia_5, o_convI cv_5_3, o_fieldAddr fa_59_1 (by decide), o_fieldAddr fa_59_2 (by decide), o_build za_24 pl_24, sz_24, o_fieldAddr fa_24_0 (by decide), loadA_eq ia_3, o_fieldAddr fa_24_1 (by decide), o_fieldAddr fa_59_3 (by decide), loadA_eq ia_57, lenA_sl lk_57, o_indexAddrS es_57, o_fieldAddr fa_24_3 (by decide), loadA_eq ia_22, o_indexAddrS es_22, ze_22, o_buildSlice es_22 ze_22 (by decide) ba_22_1, ap_22, builtin_append ni_22, sz_22, loadA_eq ia_24, n31_1s, n31_3s, n31_6s, n31_11s, n31_13s, n31_14s, n31_12s, n31_10s, n31_18s, n31_21s, n31_23s, n31_24s, n31_22s, n31_20s, n31_25s, n31_19s, n31_17s, n31_16s, n31_26s, n31_15s, n31_9s, n31_7s, n31_5s, n31_28s, n31_29s, n31_27s, n31_4s, n31_2s, n31_0s, Try.f31, e0, e1, hin, hb, tm4, td4, tm20d, loopS_grow, sweep, ptrT, renT, optAll, renB_flat, renB_non, ptrB_flat, ptrB_non, idx, ptrB_nB, renB_nB, append_some ap_22, srcCells, c1, this]
    · have c1 := c1 _ (by unfold ndl31; rw [if_neg hin])
      simp (disch := first | omega | decide | assumption | simp [scal]) [runOps_nil, runOps_cons, runOpsF_nil, runOpsF_cons, fstS_some, fstF_some, opStep_eq, want_none, oStep_true, oStep_false, fin_pure, fin_read, fin_alloc, fin_write, storeB, wrN, cellV, addWr, o_move, o_assign, o_pick, o_alloc, o_box, o_load, o_store, o_nilCheck, o_bin, o_un, o_extract, o_callV, o_callB, o_callI, callV_f, callV_y, callV_fc, o_makeFunc, partsA, Instr.fill, builtin_len, builtin_max2, bin_add, bin_sub, bin_mul, bin_quo, bin_rem, bin_lss, bin_leq, bin_gtr, bin_geq, bin_eql, bin_neq, un_neg, un_not, opd, opds, optAll, lk, putO, put, has, rep, nbeq, nblt, constOk, isC, ops, sub, cl, cr, co, bodyOf, thenS_normal, thenS_ret, thenS_exit, thenS_goto, afterN_normal, afterN_ret, afterN_exit, afterN_goto, condS_true, condS_false, blockS_normal, blockS_ret, blockS_exit, blockS_goto, loopS_exit, loopS_ret, plainS_some, drawS_some, fpsOk, disj, unord, mem, range', dropTo, enumT, undef, wrap_i64_id, Value.cells, mkCells, ptrTo, scal, cellsAt, rdN, endS_ret, resultsA, Option.bind_some, tupV, finish, reach, reachN, dep, ptrL_eq, ptrL, renL_eq, renL, ptrV_bool, ptrV_int, ptrV_string, ptrV_nilFunc, ptrV_nilIface, ptrV_nilPtr, ptrV_ptr, ptrV_nilSl, ptrV_sl, ptrV_iface, ptrV_agg, ptrV_tuple, ptrV_func, renV_bool, renV_int, renV_string, renV_nilFunc, renV_nilIface, renV_nilPtr, renV_ptr, renV_nilSl, renV_sl, renV_iface, renV_agg, renV_tuple, renV_func, za_24, o_fieldAddr fa_59_0 (by decide), loadA_eq ia_5, o_convI cv_5_3, o_fieldAddr fa_59_1 (by decide), o_fieldAddr fa_59_2 (by decide), o_build za_24 pl_24, sz_24, o_fieldAddr fa_24_0 (by decide), loadA_eq ia_3, o_fieldAddr fa_24_1 (by decide), o_fieldAddr fa_59_3 (by decide), loadA_eq ia_57, lenA_sl lk_57, o_indexAddrS es_57, o_fieldAddr fa_24_3 (by decide), loadA_eq ia_22, o_indexAddrS es_22, ze_22, o_buildSlice es_22 ze_22 (by decide) ba_22_1, ap_22, builtin_append ni_22, sz_22, loadA_eq ia_24, n31_1s, n31_3s, n31_6s, n31_11s, n31_13s, n31_14s, n31_12s, n31_10s, n31_18s, n31_21s, n31_23s, n31_24s, n31_22s, n31_20s, n31_25s, n31_19s, n31_17s, n31_16s, n31_26s, n31_15s, n31_9s, n31_7s, n31_5s, n31_28s, n31_29s, n31_27s, n31_4s, n31_2s, n31_0s, Try.f31, e0, e1, hin, loopS_grow, sweep, ptrT, renT, optAll, renB_flat, renB_non, ptrB_flat, ptrB_non, idx, ptrB_nB, renB_nB, append_some ap_22, srcCells, c1, this]
end
section
variable (a b d W HH : Nat) (O : Int)
def A31n (i : Int) : Tm := [(4, iv i), (3, .pointer (some ⟨2, 0, none⟩)), (20, .agg #[iv W, iv HH, iv O, .slice none 0 0]), (19, iv O), (18, iv d), (17, u8 d), (16, .pointer (some ⟨0, 2, none⟩)), (15, iv HH), (14, iv (Int.tmod b 5)), (13, iv b), (12, u8 b),
  (11, .pointer (some ⟨0, 1, none⟩)), (10, iv W), (9, iv (Int.tmod a 5)), (8, iv a), (7, u8 a), (6, .pointer (some ⟨0, 0, none⟩)), (2, .pointer (some ⟨1, 0, none⟩)), (1, .pointer (some ⟨0, 0, none⟩)), (0, ldn a b d)]
def B31n (i : Int) : Tm := [(4, iv i), (3, .pointer (some ⟨0, 0, none⟩)), (20, .agg #[iv W, iv HH, iv O, .slice none 0 0]), (19, iv O), (18, iv d), (17, u8 d), (16, .pointer (some ⟨2, 2, none⟩)), (15, iv HH), (14, iv (Int.tmod b 5)), (13, iv b), (12, u8 b),
  (11, .pointer (some ⟨2, 1, none⟩)), (10, iv W), (9, iv (Int.tmod a 5)), (8, iv a), (7, u8 a), (6, .pointer (some ⟨2, 0, none⟩)), (2, .pointer (some ⟨3, 0, none⟩)), (1, .pointer (some ⟨2, 0, none⟩)), (0, ldn a b d)]
def landn : Blk := .cells [u8 a, u8 b, u8 d, .slice none 0 0] 1 false true
def GAn : List Blk := [landn a b d , .cells [iv 0, iv 0, iv 0, .slice none 0 0] 1 false true, .cells [iv W, iv HH, iv O, .slice none 0 0] 1 false true]
def GBn (i : Nat) : List Blk := [fb W HH O (1) 0 i i, nB (ndl31 0 (fun _ => 0)) i, landn a b d , .cells [iv 0, iv 0, iv 0, .slice none 0 0] 1 false true]
theorem loop31n (hW : 2 ≤ W ∧ W ≤ 6) (hH : 2 ≤ HH ∧ HH ≤ 6) (ho : 0 ≤ O ∧ O < 80) : ∀ k i : Nat, 1 ≤ i → i + k = W * HH →
    codeB Try.prog LL ⟨31, 59, 0, none⟩ n31_8 ⟨B31n a b d W HH O  i, GBn a b d W HH O  i, []⟩ = some (.exit 0, ⟨[(27, .bool false), (26, iv (W * HH : Nat)), (25, iv HH), (24, .pointer (some ⟨0, 1, none⟩)), (23, iv W), (22, .pointer (some ⟨0, 0, none⟩)), (21, iv (W * HH : Nat))] ++ B31n a b d W HH O  (W * HH : Nat), GBn a b d W HH O  (W * HH), []⟩) := by
  intro k
  induction k with
  | zero =>
    intro i h1 hi
    obtain rfl : i = W * HH := by omega
    have e0 : (W : Int) * HH = ((W * HH : Nat) : Int) := by simp
    have hm := Nat.mul_le_mul hW.2 hH.2
    generalize W * HH = z at *
    have e1 : ¬ (z : Int) < z := by omega
    rw [n31_8s]
    simp only [B31n, GBn, landn, List.cons_append, List.nil_append]
    simp (disch := first | omega | decide | assumption | simp [scal]) [runOps_nil, runOps_cons, runOpsF_nil, runOpsF_cons, fstS_some, fstF_some, opStep_eq, want_none, oStep_true, oStep_false, fin_pure, fin_read, fin_alloc, fin_write, storeB, wrN, cellV, addWr, o_move, o_assign, o_pick, o_alloc, o_box, o_load, o_store, o_nilCheck, o_bin, o_un, o_extract, o_callV, o_callB, o_callI, callV_f, callV_y, callV_fc, o_makeFunc, partsA, Instr.fill, builtin_len, builtin_max2, bin_add, bin_sub, bin_mul, bin_quo, bin_rem, bin_lss, bin_leq, bin_gtr, bin_geq, bin_eql, bin_neq, un_neg, un_not, opd, opds, optAll, lk, putO, put, has, rep, nbeq, nblt, constOk, isC, ops, sub, cl, cr, co, bodyOf, thenS_normal, thenS_ret, thenS_exit, thenS_goto, afterN_normal, afterN_ret, afterN_exit, afterN_goto, condS_true, condS_false, blockS_normal, blockS_ret, blockS_exit, blockS_goto, loopS_exit, loopS_ret, plainS_some, drawS_some, fpsOk, disj, unord, mem, range', dropTo, enumT, undef, wrap_i64_id, Value.cells, mkCells, ptrTo, scal, cellsAt, rdN, endS_ret, resultsA, Option.bind_some, tupV, finish, reach, reachN, dep, ptrL_eq, ptrL, renL_eq, renL, ptrV_bool, ptrV_int, ptrV_string, ptrV_nilFunc, ptrV_nilIface, ptrV_nilPtr, ptrV_ptr, ptrV_nilSl, ptrV_sl, ptrV_iface, ptrV_agg, ptrV_tuple, ptrV_func, renV_bool, renV_int, renV_string, renV_nilFunc, renV_nilIface, renV_nilPtr, renV_ptr, renV_nilSl, renV_sl, renV_iface, renV_agg, renV_tuple, renV_func, za_24, o_fieldAddr fa_59_0 (by decide), loadA_eq ia_5, o_convI cv_5_3, o_fieldAddr fa_59_1 (by decide), o_fieldAddr fa_59_2 (by decide), o_build za_24 pl_24, sz_24, o_fieldAddr fa_24_0 (by decide), loadA_eq ia_3, o_fieldAddr fa_24_1 (by decide), o_fieldAddr fa_59_3 (by decide), loadA_eq ia_57, lenA_sl lk_57, o_indexAddrS es_57, o_fieldAddr fa_24_3 (by decide), loadA_eq ia_22, o_indexAddrS es_22, ze_22, o_buildSlice es_22 ze_22 (by decide) ba_22_1, ap_22, builtin_append ni_22, sz_22, loadA_eq ia_24, n31_1s, n31_3s, n31_6s, n31_11s, n31_13s, n31_14s, n31_12s, n31_10s, n31_18s, n31_21s, n31_23s, n31_24s, n31_22s, n31_20s, n31_25s, n31_19s, n31_17s, n31_16s, n31_26s, n31_15s, n31_9s, n31_7s, n31_5s, n31_28s, n31_29s, n31_27s, n31_4s, n31_2s, n31_0s, Try.f31, e0, e1]
  | succ k ih =>
    intro i h1 hi
    have this := L_code (ih (i + 1) (by omega) (by omega))
    have e0 : (W : Int) * HH = ((W * HH : Nat) : Int) := by simp
    have hm := Nat.mul_le_mul hW.2 hH.2
    generalize W * HH = z at *
    have e1 : i < z := by omega
    have c1 := fun x hx h b c rd => app_nB (h := h) (b := b) (c := c) (n := i) (f := ndl31 0 (fun _ => 0)) (x := x) (rd := rd) (by omega) hx
    rw [n31_8s]
    simp only [B31n, GBn, landn, cast1, List.cons_append, List.nil_append] at this ⊢
    have c1 := c1 _ (by unfold ndl31; rw [if_neg (Nat.not_lt_zero _)])
    have e2 : ¬ (i : Int) < 0 := by omega
    simp (disch := first | omega | decide | assumption | simp [scal]) [runOps_nil, runOps_cons, runOpsF_nil, runOpsF_cons, fstS_some, fstF_some, opStep_eq, want_none, oStep_true, oStep_false, fin_pure, fin_read, fin_alloc, fin_write, storeB, wrN, cellV, addWr, o_move, o_assign, o_pick, o_alloc, o_box, o_load, o_store, o_nilCheck, o_bin, o_un, o_extract, o_callV, o_callB, o_callI, callV_f, callV_y, callV_fc, o_makeFunc, partsA, Instr.fill, builtin_len, builtin_max2, bin_add, bin_sub, bin_mul, bin_quo, bin_rem, bin_lss, bin_leq, bin_gtr, bin_geq, bin_eql, bin_neq, un_neg, un_not, opd, opds, optAll, lk, putO, put, has, rep, nbeq, nblt, constOk, isC, ops, sub, cl, cr, co, bodyOf, thenS_normal, thenS_ret, thenS_exit, thenS_goto, afterN_normal, afterN_ret, afterN_exit, afterN_goto, condS_true, condS_false, blockS_normal, blockS_ret, blockS_exit, blockS_goto, loopS_exit, loopS_ret, plainS_some, drawS_some, fpsOk, disj, unord, mem, range', dropTo, enumT, undef, wrap_i64_id, Value.cells, mkCells, ptrTo, scal, cellsAt, rdN, endS_ret, resultsA, Option.bind_some, tupV, finish, reach, reachN, dep, ptrL_eq, ptrL, renL_eq, renL, ptrV_bool, ptrV_int, ptrV_string, ptrV_nilFunc, ptrV_nilIface, ptrV_nilPtr, ptrV_ptr, ptrV_nilSl, ptrV_sl, ptrV_iface, ptrV_agg, ptrV_tuple, ptrV_func, renV_bool, renV_int, renV_string, renV_nilFunc, renV_nilIface, renV_nilPtr, renV_ptr, renV_nilSl, renV_sl, renV_iface, renV_agg, renV_tuple, renV_func, za_24, o_fieldAddr fa_59_0 (by decide), loadA_eq ia_5, o_convI cv_5_3, o_fieldAddr fa_59_1 (by decide), o_fieldAddr fa_59_2 (by decide), o_build za_24 pl_24, sz_24, o_fieldAddr fa_24_0 (by decide), loadA_eq ia_3, o_fieldAddr fa_24_1 (by decide), o_fieldAddr fa_59_3 (by decide), loadA_eq ia_57, lenA_sl lk_57, o_indexAddrS es_57, o_fieldAddr fa_24_3 (by decide), loadA_eq ia_22, o_indexAddrS es_22, ze_22, o_buildSlice es_22 ze_22 (by decide) ba_22_1, ap_22, builtin_append ni_22, sz_22, loadA_eq ia_24, n31_1s, n31_3s, n31_6s, n31_11s, n31_13s, n31_14s, n31_12s, n31_10s, n31_18s, n31_21s, n31_23s, n31_24s, n31_22s, n31_20s, n31_25s, n31_19s, n31_17s, n31_16s, n31_26s, n31_15s, n31_9s, n31_7s, n31_5s, n31_28s, n31_29s, n31_27s, n31_4s, n31_2s, n31_0s, Try.f31, e0, e1, e2, loopS_grow, sweep, ptrT, renT, optAll, renB_flat, renB_non, ptrB_flat, ptrB_non, idx, ptrB_nB, renB_nB, append_some ap_22, srcCells, c1, this]
end
end Go.Proofs.Ytgpcjdhlijompaa.ore
namespace Go.Proofs.Ytgpcjdhlijompaa.ore
open Go.GE
set_option linter.unusedVariables false
set_option linter.unusedSimpArgs false
set_option maxRecDepth 100000
section
variable (a b d W HH : Nat) (O : Int) (off n c : Nat) (cs : List Value) (own : Bool) (rw : Nat → Nat)
set_option maxHeartbeats 2000000 in
theorem c31 (hW : 2 ≤ W ∧ W ≤ 6) (hH : 2 ≤ HH ∧ HH ≤ 6) (ho : 0 ≤ O ∧ O < 80) (x1 : (2 : Int) + Int.tmod (a : Int) 5 = W) (x2 : (2 : Int) + Int.tmod (b : Int) 5 = HH) (x3 : Int.tmod (d : Int) 80 = O) (ha : a < 256) (hb : b < 256) (hd : d < 256) (hcs : ∀ i, i < n → cs[off + i]? = some (u8 (rw i))) (hrw : ∀ i, i < n → rw i < 256) :
    LL.run 31 [ldv a b d 0 off n c] [.cells cs 1 true own] = some ⟨fv W HH O 1 0 (W * HH : Nat) (W * HH : Nat), [nB (ndl31 n rw) (W * HH)], []⟩ := by
  have z1 : 0 < W * HH := Nat.mul_pos (by omega) (by omega)
  have this := loop31 a b d W HH O off n c cs own rw hW hH ho hcs hrw (W * HH - 1) 1 (by omega) (by omega)
  have this := L_code this
  have hm := Nat.mul_le_mul hW.2 hH.2
  have e0 : (W : Int) * HH = ((W * HH : Nat) : Int) := by simp
  generalize W * HH = z at *
  have start : codeB Try.prog LL ⟨31, 59, 1, none⟩ n31_8 ⟨A31 a b d W HH O off n c 0, GA a b d W HH O off n c cs own, []⟩ = some (.exit 0, ⟨[(27, .bool false), (26, iv z), (25, iv HH), (24, .pointer (some ⟨1, 1, none⟩)), (23, iv W), (22, .pointer (some ⟨1, 0, none⟩)), (21, iv z)] ++ B31 a b d W HH O off n c z, GB a b d W HH O off n c cs own rw z, []⟩) := by
    rw [n31_8s]
    have cast1' : ((1 : Nat) : Int) = 1 := rfl
    simp only [A31, B31, GA, GB, land, cast1', List.cons_append, List.nil_append] at this ⊢
    by_cases hin : 0 < n
    · have hr := hrw 0 hin
      have hb := hcs 0 hin
      rw [Nat.add_zero] at hb
      have c1 := nB_one (f := ndl31 n rw) (x := _) (by unfold ndl31; rw [if_pos hin])
      rw [← c1] at this
      simp (disch := first | omega | decide | assumption | simp [scal]) [runOps_nil, runOps_cons, runOpsF_nil, runOpsF_cons, fstS_some, fstF_some, opStep_eq, want_none, oStep_true, oStep_false, fin_pure, fin_read, fin_alloc, fin_write, storeB, wrN, cellV, addWr, o_move, o_assign, o_pick, o_alloc, o_box, o_load, o_store, o_nilCheck, o_bin, o_un, o_extract, o_callV, o_callB, o_callI, callV_f, callV_y, callV_fc, o_makeFunc, partsA, Instr.fill, builtin_len, builtin_max2, bin_add, bin_sub, bin_mul, bin_quo, bin_rem, bin_lss, bin_leq, bin_gtr, bin_geq, bin_eql, bin_neq, un_neg, un_not, opd, opds, optAll, lk, putO, put, has, rep, nbeq, nblt, constOk, isC, ops, sub, cl, cr, co, bodyOf, thenS_normal, thenS_ret, thenS_exit, thenS_goto, afterN_normal, afterN_ret, afterN_exit, afterN_goto, condS_true, condS_false, blockS_normal, blockS_ret, blockS_exit, blockS_goto, loopS_exit, loopS_ret, plainS_some, drawS_some, fpsOk, disj, unord, mem, range', dropTo, enumT, undef, wrap_i64_id, Value.cells, mkCells, ptrTo, scal, cellsAt, rdN, endS_ret, resultsA, Option.bind_some, tupV, finish, reach, reachN, dep, ptrL_eq, ptrL, renL_eq, renL, ptrV_bool, ptrV_int, ptrV_string, ptrV_nilFunc, ptrV_nilIface, ptrV_nilPtr, ptrV_ptr, ptrV_nilSl, ptrV_sl, ptrV_iface, ptrV_agg, ptrV_tuple, ptrV_func, renV_bool, renV_int, renV_string, renV_nilFunc, renV_nilIface, renV_nilPtr, renV_ptr, renV_nilSl, renV_sl, renV_iface, renV_agg, renV_tuple, renV_func, za_24, o_fieldAddr fa_59_0 (by decide), loadA_eq ia_5, o_convI cv_5_3, o_fieldAddr fa_59_1 (by decide), o_fieldAddr fa_59_2 (by decide), o_build za_24 pl_24, sz_24, o_fieldAddr fa_24_0 (by decide), loadA_eq ia_3, o_fieldAddr fa_24_1 (by decide), o_fieldAddr fa_59_3 (by decide), loadA_eq ia_57, lenA_sl lk_57, o_indexAddrS es_57, o_fieldAddr fa_24_3 (by decide), loadA_eq ia_22, o_indexAddrS es_22, ze_22, o_buildSlice es_22 ze_22 (by decide) ba_22_1, ap_22, builtin_append ni_22, sz_22, loadA_eq ia_24, n31_1s, n31_3s, n31_6s, n31_11s, n31_13s, n31_14s, n31_12s, n31_10s, n31_18s, n31_21s, n31_23s, n31_24s, n31_22s, n31_20s, n31_25s, n31_19s, n31_17s, n31_16s, n31_26s, n31_15s, n31_9s, n31_7s, n31_5s, n31_28s, n31_29s, n31_27s, n31_4s, n31_2s, n31_0s, Try.f31, e0, z1, hin, hb, tm4, td4, tm20d, loopS_grow, sweep, ptrT, renT, optAll, renB_flat, renB_non, ptrB_flat, ptrB_non, idx, ptrB_nB, renB_nB, append_nil ap_22, appN, srcCells, this]
    · have c1 := nB_one (f := ndl31 n rw) (x := 0) (by unfold ndl31; rw [if_neg hin])
      rw [← c1] at this
      simp (disch := first | omega | decide | assumption | simp [scal]) [runOps_nil, runOps_cons, runOpsF_nil, runOpsF_cons, fstS_some, fstF_some, opStep_eq, want_none, oStep_true, oStep_false, fin_pure, fin_read, fin_alloc, fin_write, storeB, wrN, cellV, addWr, o_move, o_assign, o_pick, o_alloc, o_box, o_load, o_store, o_nilCheck, o_bin, o_un, o_extract, o_callV, o_callB, o_callI, callV_f, callV_y, callV_fc, o_makeFunc, partsA, Instr.fill, builtin_len, builtin_max2, bin_add, bin_sub, bin_mul, bin_quo, bin_rem, bin_lss, bin_leq, bin_gtr, bin_geq, bin_eql, bin_neq, un_neg, un_not, opd, opds, optAll, lk, putO, put, has, rep, nbeq, nblt, constOk, isC, ops, sub, cl, cr, co, bodyOf, thenS_normal, thenS_ret, thenS_exit, thenS_goto, afterN_normal, afterN_ret, afterN_exit, afterN_goto, condS_true, condS_false, blockS_normal, blockS_ret, blockS_exit, blockS_goto, loopS_exit, loopS_ret, plainS_some, drawS_some, fpsOk, disj, unord, mem, range', dropTo, enumT, undef, wrap_i64_id, Value.cells, mkCells, ptrTo, scal, cellsAt, rdN, endS_ret, resultsA, Option.bind_some, tupV, finish, reach, reachN, dep, ptrL_eq, ptrL, renL_eq, renL, ptrV_bool, ptrV_int, ptrV_string, ptrV_nilFunc, ptrV_nilIface, ptrV_nilPtr, ptrV_ptr, ptrV_nilSl, ptrV_sl, ptrV_iface, ptrV_agg, ptrV_tuple, ptrV_func, renV_bool, renV_int, renV_string, renV_nilFunc, renV_nilIface, renV_nilPtr, renV_ptr, renV_nilSl, renV_sl, renV_iface, renV_agg, renV_tuple, renV_func, za_24, o_fieldAddr fa_59_0 (by decide), loadA_eq ia_5, o_convI cv_5_3, o_fieldAddr fa_59_1 (by decide), o_fieldAddr fa_59_2 (by decide), o_build za_24 pl_24, sz_24, o_fieldAddr fa_24_0 (by decide), loadA_eq ia_3, o_fieldAddr fa_24_1 (by decide), o_fieldAddr fa_59_3 (by decide), loadA_eq ia_57, lenA_sl lk_57, o_indexAddrS es_57, o_fieldAddr fa_24_3 (by decide), loadA_eq ia_22, o_indexAddrS es_22, ze_22, o_buildSlice es_22 ze_22 (by decide) ba_22_1, ap_22, builtin_append ni_22, sz_22, loadA_eq ia_24, n31_1s, n31_3s, n31_6s, n31_11s, n31_13s, n31_14s, n31_12s, n31_10s, n31_18s, n31_21s, n31_23s, n31_24s, n31_22s, n31_20s, n31_25s, n31_19s, n31_17s, n31_16s, n31_26s, n31_15s, n31_9s, n31_7s, n31_5s, n31_28s, n31_29s, n31_27s, n31_4s, n31_2s, n31_0s, Try.f31, e0, z1, hin, loopS_grow, sweep, ptrT, renT, optAll, renB_flat, renB_non, ptrB_flat, ptrB_non, idx, ptrB_nB, renB_nB, append_nil ap_22, appN, srcCells, this]
  refine go (by decide) ?_
  rw [run31 _ _ _ (by simp)]
  simp only [A31, B31, GA, GB, land, List.cons_append, List.nil_append] at start
  simp (disch := first | omega | decide | assumption | simp [scal]) [runOps_nil, runOps_cons, runOpsF_nil, runOpsF_cons, fstS_some, fstF_some, opStep_eq, want_none, oStep_true, oStep_false, fin_pure, fin_read, fin_alloc, fin_write, storeB, wrN, cellV, addWr, o_move, o_assign, o_pick, o_alloc, o_box, o_load, o_store, o_nilCheck, o_bin, o_un, o_extract, o_callV, o_callB, o_callI, callV_f, callV_y, callV_fc, o_makeFunc, partsA, Instr.fill, builtin_len, builtin_max2, bin_add, bin_sub, bin_mul, bin_quo, bin_rem, bin_lss, bin_leq, bin_gtr, bin_geq, bin_eql, bin_neq, un_neg, un_not, opd, opds, optAll, lk, putO, put, has, rep, nbeq, nblt, constOk, isC, ops, sub, cl, cr, co, bodyOf, thenS_normal, thenS_ret, thenS_exit, thenS_goto, afterN_normal, afterN_ret, afterN_exit, afterN_goto, condS_true, condS_false, blockS_normal, blockS_ret, blockS_exit, blockS_goto, loopS_exit, loopS_ret, plainS_some, drawS_some, fpsOk, disj, unord, mem, range', dropTo, enumT, undef, wrap_i64_id, Value.cells, mkCells, ptrTo, scal, cellsAt, rdN, endS_ret, resultsA, Option.bind_some, tupV, finish, reach, reachN, dep, ptrL_eq, ptrL, renL_eq, renL, ptrV_bool, ptrV_int, ptrV_string, ptrV_nilFunc, ptrV_nilIface, ptrV_nilPtr, ptrV_ptr, ptrV_nilSl, ptrV_sl, ptrV_iface, ptrV_agg, ptrV_tuple, ptrV_func, renV_bool, renV_int, renV_string, renV_nilFunc, renV_nilIface, renV_nilPtr, renV_ptr, renV_nilSl, renV_sl, renV_iface, renV_agg, renV_tuple, renV_func, za_24, o_fieldAddr fa_59_0 (by decide), loadA_eq ia_5, o_convI cv_5_3, o_fieldAddr fa_59_1 (by decide), o_fieldAddr fa_59_2 (by decide), o_build za_24 pl_24, sz_24, o_fieldAddr fa_24_0 (by decide), loadA_eq ia_3, o_fieldAddr fa_24_1 (by decide), o_fieldAddr fa_59_3 (by decide), loadA_eq ia_57, lenA_sl lk_57, o_indexAddrS es_57, o_fieldAddr fa_24_3 (by decide), loadA_eq ia_22, o_indexAddrS es_22, ze_22, o_buildSlice es_22 ze_22 (by decide) ba_22_1, ap_22, builtin_append ni_22, sz_22, loadA_eq ia_24, n31_1s, n31_3s, n31_6s, n31_11s, n31_13s, n31_14s, n31_12s, n31_10s, n31_18s, n31_21s, n31_23s, n31_24s, n31_22s, n31_20s, n31_25s, n31_19s, n31_17s, n31_16s, n31_26s, n31_15s, n31_9s, n31_7s, n31_5s, n31_28s, n31_29s, n31_27s, n31_4s, n31_2s, n31_0s, Try.f31, x1, x2, x3, start, ptrB_nB, renB_nB, idx]
end
section
variable (a b d W HH : Nat) (O : Int)
set_option maxHeartbeats 2000000 in
theorem c31n (hW : 2 ≤ W ∧ W ≤ 6) (hH : 2 ≤ HH ∧ HH ≤ 6) (ho : 0 ≤ O ∧ O < 80) (x1 : (2 : Int) + Int.tmod (a : Int) 5 = W) (x2 : (2 : Int) + Int.tmod (b : Int) 5 = HH) (x3 : Int.tmod (d : Int) 80 = O) (ha : a < 256) (hb : b < 256) (hd : d < 256) :
    LL.run 31 [ldn a b d] [] = some ⟨fv W HH O 0 0 (W * HH : Nat) (W * HH : Nat), [nB (ndl31 0 (fun _ => 0)) (W * HH)], []⟩ := by
  have z1 : 0 < W * HH := Nat.mul_pos (by omega) (by omega)
  have this := loop31n a b d W HH O  hW hH ho (W * HH - 1) 1 (by omega) (by omega)
  have this := L_code this
  have hm := Nat.mul_le_mul hW.2 hH.2
  have e0 : (W : Int) * HH = ((W * HH : Nat) : Int) := by simp
  generalize W * HH = z at *
  have start : codeB Try.prog LL ⟨31, 59, 0, none⟩ n31_8 ⟨A31n a b d W HH O  0, GAn a b d W HH O , []⟩ = some (.exit 0, ⟨[(27, .bool false), (26, iv z), (25, iv HH), (24, .pointer (some ⟨0, 1, none⟩)), (23, iv W), (22, .pointer (some ⟨0, 0, none⟩)), (21, iv z)] ++ B31n a b d W HH O  z, GBn a b d W HH O  z, []⟩) := by
    rw [n31_8s]
    have cast1' : ((1 : Nat) : Int) = 1 := rfl
    simp only [A31n, B31n, GAn, GBn, landn, cast1', List.cons_append, List.nil_append] at this ⊢
    have c1 := nB_one (f := ndl31 0 (fun _ => 0)) (x := 0) (by unfold ndl31; rw [if_neg (Nat.not_lt_zero _)])
    rw [← c1] at this
    simp (disch := first | omega | decide | assumption | simp [scal]) [runOps_nil, runOps_cons, runOpsF_nil, runOpsF_cons, fstS_some, fstF_some, opStep_eq, want_none, oStep_true, oStep_false, fin_pure, fin_read, fin_alloc, fin_write, storeB, wrN, cellV, addWr, o_move, o_assign, o_pick, o_alloc, o_box, o_load, o_store, o_nilCheck, o_bin, o_un, o_extract, o_callV, o_callB, o_callI, callV_f, callV_y, callV_fc, o_makeFunc, partsA, Instr.fill, builtin_len, builtin_max2, bin_add, bin_sub, bin_mul, bin_quo, bin_rem, bin_lss, bin_leq, bin_gtr, bin_geq, bin_eql, bin_neq, un_neg, un_not, opd, opds, optAll, lk, putO, put, has, rep, nbeq, nblt, constOk, isC, ops, sub, cl, cr, co, bodyOf, thenS_normal, thenS_ret, thenS_exit, thenS_goto, afterN_normal, afterN_ret, afterN_exit, afterN_goto, condS_true, condS_false, blockS_normal, blockS_ret, blockS_exit, blockS_goto, loopS_exit, loopS_ret, plainS_some, drawS_some, fpsOk, disj, unord, mem, range', dropTo, enumT, undef, wrap_i64_id, Value.cells, mkCells, ptrTo, scal, cellsAt, rdN, endS_ret, resultsA, Option.bind_some, tupV, finish, reach, reachN, dep, ptrL_eq, ptrL, renL_eq, renL, ptrV_bool, ptrV_int, ptrV_string, ptrV_nilFunc, ptrV_nilIface, ptrV_nilPtr, ptrV_ptr, ptrV_nilSl, ptrV_sl, ptrV_iface, ptrV_agg, ptrV_tuple, ptrV_func, renV_bool, renV_int, renV_string, renV_nilFunc, renV_nilIface, renV_nilPtr, renV_ptr, renV_nilSl, renV_sl, renV_iface, renV_agg, renV_tuple, renV_func, za_24, o_fieldAddr fa_59_0 (by decide), loadA_eq ia_5, o_convI cv_5_3, o_fieldAddr fa_59_1 (by decide), o_fieldAddr fa_59_2 (by decide), o_build za_24 pl_24, sz_24, o_fieldAddr fa_24_0 (by decide), loadA_eq ia_3, o_fieldAddr fa_24_1 (by decide), o_fieldAddr fa_59_3 (by decide), loadA_eq ia_57, lenA_sl lk_57, o_indexAddrS es_57, o_fieldAddr fa_24_3 (by decide), loadA_eq ia_22, o_indexAddrS es_22, ze_22, o_buildSlice es_22 ze_22 (by decide) ba_22_1, ap_22, builtin_append ni_22, sz_22, loadA_eq ia_24, n31_1s, n31_3s, n31_6s, n31_11s, n31_13s, n31_14s, n31_12s, n31_10s, n31_18s, n31_21s, n31_23s, n31_24s, n31_22s, n31_20s, n31_25s, n31_19s, n31_17s, n31_16s, n31_26s, n31_15s, n31_9s, n31_7s, n31_5s, n31_28s, n31_29s, n31_27s, n31_4s, n31_2s, n31_0s, Try.f31, e0, z1, loopS_grow, sweep, ptrT, renT, optAll, renB_flat, renB_non, ptrB_flat, ptrB_non, idx, ptrB_nB, renB_nB, append_nil ap_22, appN, srcCells, this]
  refine go (by decide) ?_
  rw [run31 _ _ _ (by simp)]
  simp only [A31n, B31n, GAn, GBn, landn, List.cons_append, List.nil_append] at start
  simp (disch := first | omega | decide | assumption | simp [scal]) [runOps_nil, runOps_cons, runOpsF_nil, runOpsF_cons, fstS_some, fstF_some, opStep_eq, want_none, oStep_true, oStep_false, fin_pure, fin_read, fin_alloc, fin_write, storeB, wrN, cellV, addWr, o_move, o_assign, o_pick, o_alloc, o_box, o_load, o_store, o_nilCheck, o_bin, o_un, o_extract, o_callV, o_callB, o_callI, callV_f, callV_y, callV_fc, o_makeFunc, partsA, Instr.fill, builtin_len, builtin_max2, bin_add, bin_sub, bin_mul, bin_quo, bin_rem, bin_lss, bin_leq, bin_gtr, bin_geq, bin_eql, bin_neq, un_neg, un_not, opd, opds, optAll, lk, putO, put, has, rep, nbeq, nblt, constOk, isC, ops, sub, cl, cr, co, bodyOf, thenS_normal, thenS_ret, thenS_exit, thenS_goto, afterN_normal, afterN_ret, afterN_exit, afterN_goto, condS_true, condS_false, blockS_normal, blockS_ret, blockS_exit, blockS_goto, loopS_exit, loopS_ret, plainS_some, drawS_some, fpsOk, disj, unord, mem, range', dropTo, enumT, undef, wrap_i64_id, Value.cells, mkCells, ptrTo, scal, cellsAt, rdN, endS_ret, resultsA, Option.bind_some, tupV, finish, reach, reachN, dep, ptrL_eq, ptrL, renL_eq, renL, ptrV_bool, ptrV_int, ptrV_string, ptrV_nilFunc, ptrV_nilIface, ptrV_nilPtr, ptrV_ptr, ptrV_nilSl, ptrV_sl, ptrV_iface, ptrV_agg, ptrV_tuple, ptrV_func, renV_bool, renV_int, renV_string, renV_nilFunc, renV_nilIface, renV_nilPtr, renV_ptr, renV_nilSl, renV_sl, renV_iface, renV_agg, renV_tuple, renV_func, za_24, o_fieldAddr fa_59_0 (by decide), loadA_eq ia_5, o_convI cv_5_3, o_fieldAddr fa_59_1 (by decide), o_fieldAddr fa_59_2 (by decide), o_build za_24 pl_24, sz_24, o_fieldAddr fa_24_0 (by decide), loadA_eq ia_3, o_fieldAddr fa_24_1 (by decide), o_fieldAddr fa_59_3 (by decide), loadA_eq ia_57, lenA_sl lk_57, o_indexAddrS es_57, o_fieldAddr fa_24_3 (by decide), loadA_eq ia_22, o_indexAddrS es_22, ze_22, o_buildSlice es_22 ze_22 (by decide) ba_22_1, ap_22, builtin_append ni_22, sz_22, loadA_eq ia_24, n31_1s, n31_3s, n31_6s, n31_11s, n31_13s, n31_14s, n31_12s, n31_10s, n31_18s, n31_21s, n31_23s, n31_24s, n31_22s, n31_20s, n31_25s, n31_19s, n31_17s, n31_16s, n31_26s, n31_15s, n31_9s, n31_7s, n31_5s, n31_28s, n31_29s, n31_27s, n31_4s, n31_2s, n31_0s, Try.f31, x1, x2, x3, start, ptrB_nB, renB_nB, idx]
end
end Go.Proofs.Ytgpcjdhlijompaa.ore
namespace Go.Proofs.Ytgpcjdhlijompaa.ore
open Go.GE
set_option linter.unusedVariables false
set_option linter.unusedSimpArgs false
set_option maxRecDepth 100000
theorem ndl_isN {m : Nat} {rw : Nat → Nat} (i : Nat) : isN (ndl31 m rw i) := by
  unfold ndl31 isN
  split <;> omega
theorem ndl_sure {m : Nat} {rw : Nat → Nat} {o : Int} (ho : 0 ≤ o ∧ o < 80) (i j : Nat) : sureS o (turnS (ndl31 m rw i) (ndl31 m rw j)) := by
  have key : ∀ i, ∃ A B : Int, ndl31 m rw i = 800 * A + B ∧ (A = 0 ∨ A = 1 ∨ A = 2 ∨ A = 3) ∧ 0 ≤ B ∧ B ≤ 19 := fun i => by
    unfold ndl31
    split
    · exact ⟨(rw i : Int) % 4, (rw i : Int) / 4 % 20, by omega, by omega, by omega, by omega⟩
    · exact ⟨0, 0, by omega, by omega, by omega, by omega⟩
  obtain ⟨A, B, e, hA, hB⟩ := key i
  obtain ⟨C, D, f, hC, hD⟩ := key j
  rw [e, f]
  unfold sureS turnS
  rcases hA with rfl | rfl | rfl | rfl <;> rcases hC with rfl | rfl | rfl | rfl <;> omega
theorem chk_land {W HH : Nat} {O : Int} {m : Nat} {rw : Nat → Nat} (hW : 2 ≤ W ∧ W ≤ 6) (hH : 2 ≤ HH ∧ HH ≤ 6) (ho : 0 ≤ O ∧ O < 80) : chk W HH O (W * HH) (ndl31 m rw) = 0 := by
  have h1 : dims W HH O := ⟨by omega, by omega, by omega⟩
  have h2 : ((W * HH : Nat) : Int) = W * HH := by simp
  have h3 : ¬ ∃ i, i < W * HH ∧ ¬ isN (ndl31 m rw i) := by
    rintro ⟨i, _, h⟩; exact h (ndl_isN i)
  have h4 : ¬ ∃ i, i < W * HH ∧ badAt (W : Int).toNat O (ndl31 m rw) i := by
    rintro ⟨i, _, h⟩
    rcases h with ⟨_, h⟩ | ⟨_, h⟩ <;> exact h (ndl_sure ho _ _)
  unfold chk
  rw [if_neg (not_not_intro h1), if_neg (not_not_intro h2), if_neg h3, if_neg h4]
theorem fld_land {W HH : Nat} {O : Int} {m : Nat} {rw : Nat → Nat} (hW : 2 ≤ W ∧ W ≤ 6) (hH : 2 ≤ HH ∧ HH ≤ 6) (ho : 0 ≤ O ∧ O < 80) :
    Fld W HH O 0 (W * HH) ((List.range (W * HH)).map fun i => iv (ndl31 m rw i)) (ndl31 m rw) :=
  ⟨by omega, by omega, by omega, Nat.mul_comm _ _, fun i hi => by simp [hi], fun i _ => ndl_isN i⟩
theorem sure_land {W HH : Nat} {O : Int} {m : Nat} {rw : Nat → Nat} (hW : 2 ≤ W ∧ W ≤ 6) (hH : 2 ≤ HH ∧ HH ≤ 6) (ho : 0 ≤ O ∧ O < 80) : Sure (gr W (ndl31 m rw)) W HH :=
  (fld_land hW hH ho).sure fun i _ h => by rcases h with ⟨_, h⟩ | ⟨_, h⟩ <;> exact h (ndl_sure ho _ _)
theorem nB_at {f : Nat → Int} {n i : Nat} (h : i < n) : ((List.range n).map fun i => iv (f i))[0 + i]? = some (iv (f i)) := by simp [h]
section
variable (a b d W HH : Nat) (O : Int)
theorem k31 (blk off n c : Nat) {cs : List Value} {own : Bool} (rw : Nat → Nat) (hW : 2 ≤ W ∧ W ≤ 6) (hH : 2 ≤ HH ∧ HH ≤ 6) (ho : 0 ≤ O ∧ O < 80) (x1 : (2 : Int) + Int.tmod (a : Int) 5 = W) (x2 : (2 : Int) + Int.tmod (b : Int) 5 = HH) (x3 : Int.tmod (d : Int) 80 = O) (ha : a < 256) (hb : b < 256) (hd : d < 256)
    (hcs : ∀ i, i < n → cs[off + i]? = some (u8 (rw i))) (hrw : ∀ i, i < n → rw i < 256) {h : List Blk} (hh : h[blk]? = some (.cells cs 1 true own)) :
    callH LL 31 [ldv a b d blk off n c] h = some ⟨fv W HH O h.length 0 (W * HH) (W * HH), h ++ [nB (ndl31 n rw) (W * HH)], [blk], []⟩ := by
  have e := c31 a b d W HH O off n c cs own rw hW hH ho x1 x2 x3 ha hb hd hcs hrw
  have f1 : ([ldv a b d blk off n c] : List Value).flatMap (ptrV dep) = [blk] := by simp [ptrV, dep]
  have f2 : optAll (renV (idx [blk]) dep) [ldv a b d blk off n c] = some [ldv a b d 0 off n c] := by simp [renV, dep, optAll, idx, nbeq]
  unfold callH
  rw [f1, reach_one hh rfl (by decide)]
  simp only [f2]
  simp only [optAll, hh, renB, e]
  simp [mergeB, renV_agg, renV_int, renV_sl, renL, dep, optAll, nblt, renB_nB]
theorem k31n (hW : 2 ≤ W ∧ W ≤ 6) (hH : 2 ≤ HH ∧ HH ≤ 6) (ho : 0 ≤ O ∧ O < 80) (x1 : (2 : Int) + Int.tmod (a : Int) 5 = W) (x2 : (2 : Int) + Int.tmod (b : Int) 5 = HH) (x3 : Int.tmod (d : Int) 80 = O) (ha : a < 256) (hb : b < 256) (hd : d < 256) (h : List Blk) :
    callH LL 31 [ldn a b d] h = some ⟨fv W HH O h.length 0 (W * HH) (W * HH), h ++ [nB (ndl31 0 fun _ => 0) (W * HH)], [], []⟩ := by
  have e := c31n a b d W HH O hW hH ho x1 x2 x3 ha hb hd
  simp [callH, ptrL_eq, ptrL, renL_eq, renL, ptrV_agg, ptrV_int, ptrV_nilSl, renV_agg, renV_int, renV_nilSl, dep, optAll, reach, reachN, e, mergeB, renV_sl, renB_nB, nblt]
end
/-- four numbers -/
abbrev ar4 (p q r s : Nat) : Value := .agg #[u8 p, u8 q, u8 r, u8 s]
section
variable (W HH : Nat) (O : Int) (b n : Nat)
theorem k32 (c : Nat) (p q r s X Y BW BH : Nat) {cs : List Value} {own : Bool} (hW : 2 ≤ W ∧ W ≤ 6) (hH : 2 ≤ HH ∧ HH ≤ 6) (hp : p < 256) (hq : q < 256) (hr : r < 256) (hs : s < 256)
    (y1 : Int.tmod (p : Int) ((W : Int) - 1) = X) (y2 : Int.tmod (q : Int) ((HH : Int) - 1) = Y) (y3 : (1 : Int) + Int.tmod (r : Int) ((W : Int) - 1 - X) = BW) (y4 : (1 : Int) + Int.tmod (s : Int) ((HH : Int) - 1 - Y) = BH)
    (g1 : X + 1 < W) (g2 : Y + 1 < HH) (g3 : BW ≤ W) (g4 : BH ≤ HH) {h : List Blk} (hh : h[b]? = some (.cells cs 1 true own)) :
    callH LL 32 [fv W HH O b 0 n c, ar4 p q r s] h = some ⟨bv X Y BW BH, h, [b], []⟩ := by
  have f1 : ([fv W HH O b 0 n c, ar4 p q r s] : List Value).flatMap (ptrV dep) = [b] := by simp [ptrV, dep]
  have f2 : optAll (renV (idx [b]) dep) [fv W HH O b 0 n c, ar4 p q r s] = some [fv W HH O 0 0 n c, ar4 p q r s] := by simp [renV, dep, optAll, idx, nbeq]
  refine callH_one f1 hh f2 (go (by decide) ?_) rfl
  rw [run32 _ _ _ (by simp)]
  simp (disch := first | omega | decide | assumption | simp [scal]) [runOps_nil, runOps_cons, runOpsF_nil, runOpsF_cons, fstS_some, fstF_some, opStep_eq, want_none, oStep_true, oStep_false, fin_pure, fin_read, fin_alloc, fin_write, storeB, wrN, cellV, addWr, o_move, o_assign, o_pick, o_alloc, o_box, o_load, o_store, o_nilCheck, o_bin, o_un, o_extract, o_callV, o_callB, o_callI, callV_f, callV_y, callV_fc, o_makeFunc, partsA, Instr.fill, builtin_len, builtin_max2, bin_add, bin_sub, bin_mul, bin_quo, bin_rem, bin_lss, bin_leq, bin_gtr, bin_geq, bin_eql, bin_neq, un_neg, un_not, opd, opds, optAll, lk, putO, put, has, rep, nbeq, nblt, constOk, isC, ops, sub, cl, cr, co, bodyOf, thenS_normal, thenS_ret, thenS_exit, thenS_goto, afterN_normal, afterN_ret, afterN_exit, afterN_goto, condS_true, condS_false, blockS_normal, blockS_ret, blockS_exit, blockS_goto, loopS_exit, loopS_ret, plainS_some, drawS_some, fpsOk, disj, unord, mem, range', dropTo, enumT, undef, wrap_i64_id, Value.cells, mkCells, ptrTo, scal, cellsAt, rdN, endS_ret, resultsA, Option.bind_some, tupV, finish, reach, reachN, dep, ptrL_eq, ptrL, renL_eq, renL, ptrV_bool, ptrV_int, ptrV_string, ptrV_nilFunc, ptrV_nilIface, ptrV_nilPtr, ptrV_ptr, ptrV_nilSl, ptrV_sl, ptrV_iface, ptrV_agg, ptrV_tuple, ptrV_func, renV_bool, renV_int, renV_string, renV_nilFunc, renV_nilIface, renV_nilPtr, renV_ptr, renV_nilSl, renV_sl, renV_iface, renV_agg, renV_tuple, renV_func, za_35, o_indexAddrA ea_60, loadA_eq ia_5, o_convI cv_5_3, o_fieldAddr fa_24_0 (by decide), loadA_eq ia_3, o_fieldAddr fa_24_1 (by decide), sz_35, loadA_eq ia_35, n32_1s, n32_3s, n32_5s, n32_6s, n32_4s, n32_2s, n32_0s, Try.f32, y1, y2, y3, y4, k34]
theorem k33 (x y : Nat) {cs : List Value} {own : Bool} {nd : Nat → Int} (F : Fld W HH O 0 n cs nd) (G : Sure (gr W nd) W HH) (hx : x + 1 < W) (hy : y + 1 < HH) (c : Nat) {h : List Blk} (hh : h[b]? = some (.cells cs 1 true own)) :
    callH LL 33 [fv W HH O b 0 n c, iv x, iv y] h = some ⟨iv (3600 * indx (gr W nd) x y 1 1), h, [b], []⟩ := by
  have hw := F.hw; have hhh := F.hh
  obtain ⟨n1, j1, i1, l1, e1⟩ := F.at (x := x) (y := y) (by omega) (by omega)
  obtain ⟨n2, j2, i2, l2, e2⟩ := F.at (x := x + 1) (y := y) (by omega) (by omega)
  obtain ⟨n3, j3, i3, l3, e3⟩ := F.at (x := x + 1) (y := y + 1) (by omega) (by omega)
  obtain ⟨n4, j4, i4, l4, e4⟩ := F.at (x := x) (y := y + 1) (by omega) (by omega)
  have t1 := k50 _ _ n1 n2 (G.right x y (by omega) (by omega))
  have t2 := k50 _ _ n2 n3 (G.up (x + 1) y (by omega) (by omega))
  have t3 := k50 _ _ n3 n4 (by rw [turnS_anti (G.right x (y + 1) (by omega) (by omega))]; have := turnS_mod; unfold turnS; omega)
  have t4 := k50 _ _ n4 n1 (by rw [turnS_anti (G.up x y (by omega) (by omega))]; unfold turnS; omega)
  have b1 : ∀ a b, -1800 < turnS a b ∧ turnS a b ≤ 1800 := fun a b => by unfold turnS; omega
  have es := indx_spec (gr W nd) x y 1 1
  rw [ringR_sum] at es
  simp only [sumN, bA, bB, lA, lB, Nat.add_zero, Int.zero_add] at es
  have r1 := b1 (gr W nd x y) (gr W nd (x + 1) y)
  have r2 := b1 (gr W nd (x + 1) y) (gr W nd (x + 1) (y + 1))
  have r3 := b1 (gr W nd (x + 1) (y + 1)) (gr W nd x (y + 1))
  have r4 := b1 (gr W nd x (y + 1)) (gr W nd x y)
  have es' : turnS (gr W nd x y) (gr W nd (x + 1) y) + turnS (gr W nd (x + 1) y) (gr W nd (x + 1) (y + 1)) + turnS (gr W nd (x + 1) (y + 1)) (gr W nd x (y + 1)) + turnS (gr W nd x (y + 1)) (gr W nd x y) = 3600 * indx (gr W nd) x y 1 1 := by omega
  generalize gr W nd x y = v1 at *
  generalize gr W nd (x + 1) y = v2 at *
  generalize gr W nd (x + 1) (y + 1) = v3 at *
  generalize gr W nd x (y + 1) = v4 at *
  simp only [Int.natCast_add, Int.natCast_one, Nat.zero_add] at i1 i2 i3 i4 e1 e2 e3 e4
  have i2' : (j1 : Int) + 1 = j2 := by omega
  have i3' : (j4 : Int) + 1 = j3 := by omega
  have m1 := Int.mul_le_mul_of_nonneg_right (show (y : Int) + 1 ≤ 9 by omega) (show (0 : Int) ≤ W by omega)
  have m2 := Int.mul_nonneg (show (0 : Int) ≤ y by omega) (show (0 : Int) ≤ W by omega)
  have m3 : ((y : Int) + 1) * W = y * W + W := by rw [Int.add_mul, Int.one_mul]
  refine callF hh rfl (go (by decide) ?_) rfl
  rw [run33 _ _ _ (by simp)]
  simp (disch := first | omega | decide | assumption | simp [scal]) [runOps_nil, runOps_cons, runOpsF_nil, runOpsF_cons, fstS_some, fstF_some, opStep_eq, want_none, oStep_true, oStep_false, fin_pure, fin_read, fin_alloc, fin_write, storeB, wrN, cellV, addWr, o_move, o_assign, o_pick, o_alloc, o_box, o_load, o_store, o_nilCheck, o_bin, o_un, o_extract, o_callV, o_callB, o_callI, callV_f, callV_y, callV_fc, o_makeFunc, partsA, Instr.fill, builtin_len, builtin_max2, bin_add, bin_sub, bin_mul, bin_quo, bin_rem, bin_lss, bin_leq, bin_gtr, bin_geq, bin_eql, bin_neq, un_neg, un_not, opd, opds, optAll, lk, putO, put, has, rep, nbeq, nblt, constOk, isC, ops, sub, cl, cr, co, bodyOf, thenS_normal, thenS_ret, thenS_exit, thenS_goto, afterN_normal, afterN_ret, afterN_exit, afterN_goto, condS_true, condS_false, blockS_normal, blockS_ret, blockS_exit, blockS_goto, loopS_exit, loopS_ret, plainS_some, drawS_some, fpsOk, disj, unord, mem, range', dropTo, enumT, undef, wrap_i64_id, Value.cells, mkCells, ptrTo, scal, cellsAt, rdN, endS_ret, resultsA, Option.bind_some, tupV, finish, reach, reachN, dep, ptrL_eq, ptrL, renL_eq, renL, ptrV_bool, ptrV_int, ptrV_string, ptrV_nilFunc, ptrV_nilIface, ptrV_nilPtr, ptrV_ptr, ptrV_nilSl, ptrV_sl, ptrV_iface, ptrV_agg, ptrV_tuple, ptrV_func, renV_bool, renV_int, renV_string, renV_nilFunc, renV_nilIface, renV_nilPtr, renV_ptr, renV_nilSl, renV_sl, renV_iface, renV_agg, renV_tuple, renV_func, o_fieldAddr fa_24_3 (by decide), loadA_eq ia_22, o_fieldAddr fa_24_0 (by decide), loadA_eq ia_3, o_indexAddrS es_22, n33_1s, n33_3s, n33_5s, n33_7s, n33_8s, n33_6s, n33_4s, n33_2s, n33_0s, Try.f33, i1, i2', i3', i4, e1, e2, e3, e4, l1, l2, l3, l4, t1, t2, t3, t4, es']
end
end Go.Proofs.Ytgpcjdhlijompaa.ore
namespace Go.Proofs.Ytgpcjdhlijompaa.ore
open Go.GE
set_option linter.unusedVariables false
set_option linter.unusedSimpArgs false
set_option maxRecDepth 100000
/-- the block that numbers tell -/
structure Part (W HH X Y BW BH : Nat) : Prop where
  x : X + 1 < W
  y : Y + 1 < HH
  w1 : 1 ≤ BW
  h1 : 1 ≤ BH
  w2 : X + BW + 1 ≤ W
  h2 : Y + BH + 1 ≤ HH
theorem Part.has {W HH X Y BW BH : Nat} (P : Part W HH X Y BW BH) : hasB W HH X Y BW BH := by
  obtain ⟨h1, h2, h3, h4, h5, h6⟩ := P
  unfold hasB; omega
theorem ires_land {W HH X Y BW BH m : Nat} {O : Int} {rw : Nat → Nat} (hW : 2 ≤ W ∧ W ≤ 6) (hH : 2 ≤ HH ∧ HH ≤ 6) (ho : 0 ≤ O ∧ O < 80) (P : Part W HH X Y BW BH) :
    ires W HH O (W * HH) (ndl31 m rw) X Y BW BH = (indx (gr W (ndl31 m rw)) X Y BW BH, 0) := by
  have hc := chk_land (m := m) (rw := rw) hW hH ho
  have hb := P.has
  simp only [ires, hc, hb, ne_eq, not_true, if_false, Int.toNat_natCast]
section
variable (a b d : Nat) (off n c : Nat) (cs : List Value) (own : Bool) (rw : Nat → Nat) (p q r s : Nat)
set_option maxHeartbeats 8000000 in
theorem c9 (W HH : Nat) (O : Int) (X Y BW BH : Nat) (hW : 2 ≤ W ∧ W ≤ 6) (hH : 2 ≤ HH ∧ HH ≤ 6) (ho : 0 ≤ O ∧ O < 80) (x1 : (2 : Int) + Int.tmod (a : Int) 5 = W) (x2 : (2 : Int) + Int.tmod (b : Int) 5 = HH) (x3 : Int.tmod (d : Int) 80 = O) (ha : a < 256) (hb : b < 256) (hd : d < 256) (hcs : ∀ i, i < n → cs[off + i]? = some (u8 (rw i))) (hrw : ∀ i, i < n → rw i < 256)
    (hp : p < 256) (hq : q < 256) (hr : r < 256) (hs : s < 256)
    (y1 : Int.tmod (p : Int) ((W : Int) - 1) = X) (y2 : Int.tmod (q : Int) ((HH : Int) - 1) = Y) (y3 : (1 : Int) + Int.tmod (r : Int) ((W : Int) - 1 - X) = BW) (y4 : (1 : Int) + Int.tmod (s : Int) ((HH : Int) - 1 - Y) = BH) (P : Part W HH X Y BW BH) :
    LL.run 9 [ldv a b d 0 off n c, ar4 p q r s] [.cells cs 1 true own] = some ⟨.bool true, [], []⟩ := by
  refine go (by decide) ?_
  rw [run9 _ _ _ (by simp)]
  have P' := P
  obtain ⟨p1, p2, p3, p4, p5, p6⟩ := P'
  have F := fld_land (m := n) (rw := rw) hW hH ho
  have G := sure_land (m := n) (rw := rw) hW hH ho
  have hc := chk_land (m := n) (rw := rw) hW hH ho
  have hi := ires_land (m := n) (rw := rw) hW hH ho P
  have hm := Nat.mul_le_mul hW.2 hH.2
  have a1 := fun rest => k31 a b d W HH O 0 off n c rw hW hH ho x1 x2 x3 ha hb hd hcs hrw (h := .cells cs 1 true own :: rest) rfl
  have a2 := fun u0 u1 u2 rest => k32 W HH O 3 (W * HH) (W * HH) p q r s X Y BW BH (own := true) hW hH hp hq hr hs y1 y2 y3 y4 (by omega) (by omega) (by omega) (by omega) (h := u0 :: u1 :: u2 :: nB (ndl31 n rw) (W * HH) :: rest) rfl
  have a3 := fun u0 u1 u2 rest => k20 W HH O 3 0 (W * HH) (W * HH) X Y BW BH (ndl31 n rw) (own := true) (h := u0 :: u1 :: u2 :: nB (ndl31 n rw) (W * HH) :: rest) rfl (fun i hi => nB_at hi) (by omega)
  rw [hi] at a3
  obtain ⟨v, hv, ev⟩ := c29 W HH O 0 (W * HH) (W * HH) X Y BW BH ((List.range (W * HH)).map fun i => iv (ndl31 n rw i)) true (ndl31 n rw) (fun i hi => nB_at hi) (by omega)
  have a4 := fun u0 u1 u2 rest => callT (f := 29) (b := 3) (h := u0 :: u1 :: u2 :: nB (ndl31 n rw) (W * HH) :: rest) rfl (vs := [bv X Y BW BH]) rfl ev (by obtain ⟨_, _, _, _, _, _, rfl⟩ := hv.trip; exact fun g => rfl)
  have a5 := fun hp => k24 BW BH hp
  have ec : cres BW BH = (tT BW BH, 0) := by unfold cres; rw [if_pos (by omega)]; simp only [Int.toNat_natCast]
  rw [ec] at a5
  have a6 := fun x y hx hy u0 u1 u2 rest => k33 W HH O 3 (W * HH) x y (own := true) F G hx hy (W * HH) (h := u0 :: u1 :: u2 :: nB (ndl31 n rw) (W * HH) :: rest) rfl
  have t0 := tT_b BW BH
  rcases hv with ⟨h2, rfl⟩ | ⟨h2, h1, rfl⟩ | ⟨h2, h1, _, hb, x, y, r, rfl, hf⟩
  · rw [hi] at h2; exact absurd rfl h2
  · rw [hi] at h1
    simp only at h1
    rw [h1] at a3
    generalize W * HH = z at *
    simp (disch := first | omega | decide | assumption | simp [scal]) [runOps_nil, runOps_cons, runOpsF_nil, runOpsF_cons, fstS_some, fstF_some, opStep_eq, want_none, oStep_true, oStep_false, fin_pure, fin_read, fin_alloc, fin_write, storeB, wrN, cellV, addWr, o_move, o_assign, o_pick, o_alloc, o_box, o_load, o_store, o_nilCheck, o_bin, o_un, o_extract, o_callV, o_callB, o_callI, callV_f, callV_y, callV_fc, o_makeFunc, partsA, Instr.fill, builtin_len, builtin_max2, bin_add, bin_sub, bin_mul, bin_quo, bin_rem, bin_lss, bin_leq, bin_gtr, bin_geq, bin_eql, bin_neq, un_neg, un_not, opd, opds, optAll, lk, putO, put, has, rep, nbeq, nblt, constOk, isC, ops, sub, cl, cr, co, bodyOf, thenS_normal, thenS_ret, thenS_exit, thenS_goto, afterN_normal, afterN_ret, afterN_exit, afterN_goto, condS_true, condS_false, blockS_normal, blockS_ret, blockS_exit, blockS_goto, loopS_exit, loopS_ret, plainS_some, drawS_some, fpsOk, disj, unord, mem, range', dropTo, enumT, undef, wrap_i64_id, Value.cells, mkCells, ptrTo, scal, cellsAt, rdN, endS_ret, resultsA, Option.bind_some, tupV, finish, reach, reachN, dep, ptrL_eq, ptrL, renL_eq, renL, ptrV_bool, ptrV_int, ptrV_string, ptrV_nilFunc, ptrV_nilIface, ptrV_nilPtr, ptrV_ptr, ptrV_nilSl, ptrV_sl, ptrV_iface, ptrV_agg, ptrV_tuple, ptrV_func, renV_bool, renV_int, renV_string, renV_nilFunc, renV_nilIface, renV_nilPtr, renV_ptr, renV_nilSl, renV_sl, renV_iface, renV_agg, renV_tuple, renV_func, loadA_eq ia_59, za_24, sz_24, loadA_eq ia_24, loadA_eq ia_60, za_35, sz_35, loadA_eq ia_35, o_fieldAddr fa_35_2 (by decide), loadA_eq ia_3, o_fieldAddr fa_35_3 (by decide), o_fieldAddr fa_35_0 (by decide), o_fieldAddr fa_35_1 (by decide), n9_1s, n9_3s, n9_5s, n9_7s, n9_9s, n9_11s, n9_14s, n9_17s, n9_18s, n9_16s, n9_19s, n9_15s, n9_13s, n9_22s, n9_25s, n9_26s, n9_24s, n9_27s, n9_23s, n9_21s, n9_30s, n9_33s, n9_34s, n9_32s, n9_35s, n9_31s, n9_29s, n9_37s, n9_38s, n9_36s, n9_28s, n9_20s, n9_12s, n9_10s, n9_8s, n9_6s, n9_4s, n9_2s, n9_0s, want_some q9_14g2, want_some q9_25g2, want_some q9_25g6, want_some q9_30g2, want_some q9_30g6, want_some q9_30g11, want_some q9_30g16, want_some q9_30g21, want_some q9_30g28, want_some q9_30g35, want_some q9_30g45, want_some q9_37g7, Try.f9, a1, a2, a3, a4, a5, k14]
  · rw [hi] at h1
    simp only at h1
    simp only [Int.toNat_natCast] at hf
    obtain ⟨⟨f1, f2⟩, ⟨f3, f4⟩, f5, f6, f7⟩ := hf
    have a6' := a6 x y (by omega) (by omega)
    have e5 : ¬ 3600 * indx (gr W (ndl31 n rw)) x y 1 1 = 0 := by omega
    generalize 3600 * indx (gr W (ndl31 n rw)) x y 1 1 = ix at *
    generalize indx (gr W (ndl31 n rw)) X Y BW BH = iz at *
    generalize tT BW BH = Tt at *
    generalize W * HH = z at *
    have g1 : ¬ (x : Int) < X := by omega
    have g2 : ¬ (y : Int) < Y := by omega
    have g3 : ¬ ((X : Int) + BW ≤ x) := by omega
    have g4 : ¬ ((Y : Int) + BH ≤ y) := by omega
    have g5 : ¬ (r < 0) := by omega
    have g6 : ¬ (Tt < r) := by omega
    simp (disch := first | omega | decide | assumption | simp [scal]) [runOps_nil, runOps_cons, runOpsF_nil, runOpsF_cons, fstS_some, fstF_some, opStep_eq, want_none, oStep_true, oStep_false, fin_pure, fin_read, fin_alloc, fin_write, storeB, wrN, cellV, addWr, o_move, o_assign, o_pick, o_alloc, o_box, o_load, o_store, o_nilCheck, o_bin, o_un, o_extract, o_callV, o_callB, o_callI, callV_f, callV_y, callV_fc, o_makeFunc, partsA, Instr.fill, builtin_len, builtin_max2, bin_add, bin_sub, bin_mul, bin_quo, bin_rem, bin_lss, bin_leq, bin_gtr, bin_geq, bin_eql, bin_neq, un_neg, un_not, opd, opds, optAll, lk, putO, put, has, rep, nbeq, nblt, constOk, isC, ops, sub, cl, cr, co, bodyOf, thenS_normal, thenS_ret, thenS_exit, thenS_goto, afterN_normal, afterN_ret, afterN_exit, afterN_goto, condS_true, condS_false, blockS_normal, blockS_ret, blockS_exit, blockS_goto, loopS_exit, loopS_ret, plainS_some, drawS_some, fpsOk, disj, unord, mem, range', dropTo, enumT, undef, wrap_i64_id, Value.cells, mkCells, ptrTo, scal, cellsAt, rdN, endS_ret, resultsA, Option.bind_some, tupV, finish, reach, reachN, dep, ptrL_eq, ptrL, renL_eq, renL, ptrV_bool, ptrV_int, ptrV_string, ptrV_nilFunc, ptrV_nilIface, ptrV_nilPtr, ptrV_ptr, ptrV_nilSl, ptrV_sl, ptrV_iface, ptrV_agg, ptrV_tuple, ptrV_func, renV_bool, renV_int, renV_string, renV_nilFunc, renV_nilIface, renV_nilPtr, renV_ptr, renV_nilSl, renV_sl, renV_iface, renV_agg, renV_tuple, renV_func, loadA_eq ia_59, za_24, sz_24, loadA_eq ia_24, loadA_eq ia_60, za_35, sz_35, loadA_eq ia_35, o_fieldAddr fa_35_2 (by decide), loadA_eq ia_3, o_fieldAddr fa_35_3 (by decide), o_fieldAddr fa_35_0 (by decide), o_fieldAddr fa_35_1 (by decide), n9_1s, n9_3s, n9_5s, n9_7s, n9_9s, n9_11s, n9_14s, n9_17s, n9_18s, n9_16s, n9_19s, n9_15s, n9_13s, n9_22s, n9_25s, n9_26s, n9_24s, n9_27s, n9_23s, n9_21s, n9_30s, n9_33s, n9_34s, n9_32s, n9_35s, n9_31s, n9_29s, n9_37s, n9_38s, n9_36s, n9_28s, n9_20s, n9_12s, n9_10s, n9_8s, n9_6s, n9_4s, n9_2s, n9_0s, want_some q9_14g2, want_some q9_25g2, want_some q9_25g6, want_some q9_30g2, want_some q9_30g6, want_some q9_30g11, want_some q9_30g16, want_some q9_30g21, want_some q9_30g28, want_some q9_30g35, want_some q9_30g45, want_some q9_37g7, Try.f9, a1, a2, a3, a4, a5, a6', h1, e5, g1, g2, g3, g4, g5, g6, k14]
end
section
variable (a b d : Nat)  (p q r s : Nat)
set_option maxHeartbeats 8000000 in
theorem c9n (W HH : Nat) (O : Int) (X Y BW BH : Nat) (hW : 2 ≤ W ∧ W ≤ 6) (hH : 2 ≤ HH ∧ HH ≤ 6) (ho : 0 ≤ O ∧ O < 80) (x1 : (2 : Int) + Int.tmod (a : Int) 5 = W) (x2 : (2 : Int) + Int.tmod (b : Int) 5 = HH) (x3 : Int.tmod (d : Int) 80 = O) (ha : a < 256) (hb : b < 256) (hd : d < 256)
    (hp : p < 256) (hq : q < 256) (hr : r < 256) (hs : s < 256)
    (y1 : Int.tmod (p : Int) ((W : Int) - 1) = X) (y2 : Int.tmod (q : Int) ((HH : Int) - 1) = Y) (y3 : (1 : Int) + Int.tmod (r : Int) ((W : Int) - 1 - X) = BW) (y4 : (1 : Int) + Int.tmod (s : Int) ((HH : Int) - 1 - Y) = BH) (P : Part W HH X Y BW BH) :
    LL.run 9 [ldn a b d, ar4 p q r s] [] = some ⟨.bool true, [], []⟩ := by
  refine go (by decide) ?_
  rw [run9 _ _ _ (by simp)]
  have P' := P
  obtain ⟨p1, p2, p3, p4, p5, p6⟩ := P'
  have F := fld_land (m := 0) (rw := (fun _ => 0)) hW hH ho
  have G := sure_land (m := 0) (rw := (fun _ => 0)) hW hH ho
  have hc := chk_land (m := 0) (rw := (fun _ => 0)) hW hH ho
  have hi := ires_land (m := 0) (rw := (fun _ => 0)) hW hH ho P
  have hm := Nat.mul_le_mul hW.2 hH.2
  have a1 := fun h => k31n a b d W HH O hW hH ho x1 x2 x3 ha hb hd h
  have a2 := fun u0 u1 rest => k32 W HH O 2 (W * HH) (W * HH) p q r s X Y BW BH (own := true) hW hH hp hq hr hs y1 y2 y3 y4 (by omega) (by omega) (by omega) (by omega) (h := u0 :: u1 :: nB (ndl31 0 (fun _ => 0)) (W * HH) :: rest) rfl
  have a3 := fun u0 u1 rest => k20 W HH O 2 0 (W * HH) (W * HH) X Y BW BH (ndl31 0 (fun _ => 0)) (own := true) (h := u0 :: u1 :: nB (ndl31 0 (fun _ => 0)) (W * HH) :: rest) rfl (fun i hi => nB_at hi) (by omega)
  rw [hi] at a3
  obtain ⟨v, hv, ev⟩ := c29 W HH O 0 (W * HH) (W * HH) X Y BW BH ((List.range (W * HH)).map fun i => iv (ndl31 0 (fun _ => 0) i)) true (ndl31 0 (fun _ => 0)) (fun i hi => nB_at hi) (by omega)
  have a4 := fun u0 u1 rest => callT (f := 29) (b := 2) (h := u0 :: u1 :: nB (ndl31 0 (fun _ => 0)) (W * HH) :: rest) rfl (vs := [bv X Y BW BH]) rfl ev (by obtain ⟨_, _, _, _, _, _, rfl⟩ := hv.trip; exact fun g => rfl)
  have a5 := fun hp => k24 BW BH hp
  have ec : cres BW BH = (tT BW BH, 0) := by unfold cres; rw [if_pos (by omega)]; simp only [Int.toNat_natCast]
  rw [ec] at a5
  have a6 := fun x y hx hy u0 u1 rest => k33 W HH O 2 (W * HH) x y (own := true) F G hx hy (W * HH) (h := u0 :: u1 :: nB (ndl31 0 (fun _ => 0)) (W * HH) :: rest) rfl
  have t0 := tT_b BW BH
  rcases hv with ⟨h2, rfl⟩ | ⟨h2, h1, rfl⟩ | ⟨h2, h1, _, hb, x, y, r, rfl, hf⟩
  · rw [hi] at h2; exact absurd rfl h2
  · rw [hi] at h1
    simp only at h1
    rw [h1] at a3
    generalize W * HH = z at *
    simp (disch := first | omega | decide | assumption | simp [scal]) [runOps_nil, runOps_cons, runOpsF_nil, runOpsF_cons, fstS_some, fstF_some, opStep_eq, want_none, oStep_true, oStep_false, fin_pure, fin_read, fin_alloc, fin_write, storeB, wrN, cellV, addWr, o_move, o_assign, o_pick, o_alloc, o_box, o_load, o_store, o_nilCheck, o_bin, o_un, o_extract, o_callV, o_callB, o_callI, callV_f, callV_y, callV_fc, o_makeFunc, partsA, Instr.fill, builtin_len, builtin_max2, bin_add, bin_sub, bin_mul, bin_quo, bin_rem, bin_lss, bin_leq, bin_gtr, bin_geq, bin_eql, bin_neq, un_neg, un_not, opd, opds, optAll, lk, putO, put, has, rep, nbeq, nblt, constOk, isC, ops, sub, cl, cr, co, bodyOf, thenS_normal, thenS_ret, thenS_exit, thenS_goto, afterN_normal, afterN_ret, afterN_exit, afterN_goto, condS_true, condS_false, blockS_normal, blockS_ret, blockS_exit, blockS_goto, loopS_exit, loopS_ret, plainS_some, drawS_some, fpsOk, disj, unord, mem, range', dropTo, enumT, undef, wrap_i64_id, Value.cells, mkCells, ptrTo, scal, cellsAt, rdN, endS_ret, resultsA, Option.bind_some, tupV, finish, reach, reachN, dep, ptrL_eq, ptrL, renL_eq, renL, ptrV_bool, ptrV_int, ptrV_string, ptrV_nilFunc, ptrV_nilIface, ptrV_nilPtr, ptrV_ptr, ptrV_nilSl, ptrV_sl, ptrV_iface, ptrV_agg, ptrV_tuple, ptrV_func, renV_bool, renV_int, renV_string, renV_nilFunc, renV_nilIface, renV_nilPtr, renV_ptr, renV_nilSl, renV_sl, renV_iface, renV_agg, renV_tuple, renV_func, loadA_eq ia_59, za_24, sz_24, loadA_eq ia_24, loadA_eq ia_60, za_35, sz_35, loadA_eq ia_35, o_fieldAddr fa_35_2 (by decide), loadA_eq ia_3, o_fieldAddr fa_35_3 (by decide), o_fieldAddr fa_35_0 (by decide), o_fieldAddr fa_35_1 (by decide), n9_1s, n9_3s, n9_5s, n9_7s, n9_9s, n9_11s, n9_14s, n9_17s, n9_18s, n9_16s, n9_19s, n9_15s, n9_13s, n9_22s, n9_25s, n9_26s, n9_24s, n9_27s, n9_23s, n9_21s, n9_30s, n9_33s, n9_34s, n9_32s, n9_35s, n9_31s, n9_29s, n9_37s, n9_38s, n9_36s, n9_28s, n9_20s, n9_12s, n9_10s, n9_8s, n9_6s, n9_4s, n9_2s, n9_0s, want_some q9_14g2, want_some q9_25g2, want_some q9_25g6, want_some q9_30g2, want_some q9_30g6, want_some q9_30g11, want_some q9_30g16, want_some q9_30g21, want_some q9_30g28, want_some q9_30g35, want_some q9_30g45, want_some q9_37g7, Try.f9, a1, a2, a3, a4, a5, k14]
  · rw [hi] at h1
    simp only at h1
    simp only [Int.toNat_natCast] at hf
    obtain ⟨⟨f1, f2⟩, ⟨f3, f4⟩, f5, f6, f7⟩ := hf
    have a6' := a6 x y (by omega) (by omega)
    have e5 : ¬ 3600 * indx (gr W (ndl31 0 (fun _ => 0))) x y 1 1 = 0 := by omega
    generalize 3600 * indx (gr W (ndl31 0 (fun _ => 0))) x y 1 1 = ix at *
    generalize indx (gr W (ndl31 0 (fun _ => 0))) X Y BW BH = iz at *
    generalize tT BW BH = Tt at *
    generalize W * HH = z at *
    have g1 : ¬ (x : Int) < X := by omega
    have g2 : ¬ (y : Int) < Y := by omega
    have g3 : ¬ ((X : Int) + BW ≤ x) := by omega
    have g4 : ¬ ((Y : Int) + BH ≤ y) := by omega
    have g5 : ¬ (r < 0) := by omega
    have g6 : ¬ (Tt < r) := by omega
    simp (disch := first | omega | decide | assumption | simp [scal]) [runOps_nil, runOps_cons, runOpsF_nil, runOpsF_cons, fstS_some, fstF_some, opStep_eq, want_none, oStep_true, oStep_false, fin_pure, fin_read, fin_alloc, fin_write, storeB, wrN, cellV, addWr, o_move, o_assign, o_pick, o_alloc, o_box, o_load, o_store, o_nilCheck, o_bin, o_un, o_extract, o_callV, o_callB, o_callI, callV_f, callV_y, callV_fc, o_makeFunc, partsA, Instr.fill, builtin_len, builtin_max2, bin_add, bin_sub, bin_mul, bin_quo, bin_rem, bin_lss, bin_leq, bin_gtr, bin_geq, bin_eql, bin_neq, un_neg, un_not, opd, opds, optAll, lk, putO, put, has, rep, nbeq, nblt, constOk, isC, ops, sub, cl, cr, co, bodyOf, thenS_normal, thenS_ret, thenS_exit, thenS_goto, afterN_normal, afterN_ret, afterN_exit, afterN_goto, condS_true, condS_false, blockS_normal, blockS_ret, blockS_exit, blockS_goto, loopS_exit, loopS_ret, plainS_some, drawS_some, fpsOk, disj, unord, mem, range', dropTo, enumT, undef, wrap_i64_id, Value.cells, mkCells, ptrTo, scal, cellsAt, rdN, endS_ret, resultsA, Option.bind_some, tupV, finish, reach, reachN, dep, ptrL_eq, ptrL, renL_eq, renL, ptrV_bool, ptrV_int, ptrV_string, ptrV_nilFunc, ptrV_nilIface, ptrV_nilPtr, ptrV_ptr, ptrV_nilSl, ptrV_sl, ptrV_iface, ptrV_agg, ptrV_tuple, ptrV_func, renV_bool, renV_int, renV_string, renV_nilFunc, renV_nilIface, renV_nilPtr, renV_ptr, renV_nilSl, renV_sl, renV_iface, renV_agg, renV_tuple, renV_func, loadA_eq ia_59, za_24, sz_24, loadA_eq ia_24, loadA_eq ia_60, za_35, sz_35, loadA_eq ia_35, o_fieldAddr fa_35_2 (by decide), loadA_eq ia_3, o_fieldAddr fa_35_3 (by decide), o_fieldAddr fa_35_0 (by decide), o_fieldAddr fa_35_1 (by decide), n9_1s, n9_3s, n9_5s, n9_7s, n9_9s, n9_11s, n9_14s, n9_17s, n9_18s, n9_16s, n9_19s, n9_15s, n9_13s, n9_22s, n9_25s, n9_26s, n9_24s, n9_27s, n9_23s, n9_21s, n9_30s, n9_33s, n9_34s, n9_32s, n9_35s, n9_31s, n9_29s, n9_37s, n9_38s, n9_36s, n9_28s, n9_20s, n9_12s, n9_10s, n9_8s, n9_6s, n9_4s, n9_2s, n9_0s, want_some q9_14g2, want_some q9_25g2, want_some q9_25g6, want_some q9_30g2, want_some q9_30g6, want_some q9_30g11, want_some q9_30g16, want_some q9_30g21, want_some q9_30g28, want_some q9_30g35, want_some q9_30g45, want_some q9_37g7, Try.f9, a1, a2, a3, a4, a5, a6', h1, e5, g1, g2, g3, g4, g5, g6, k14]
end
end Go.Proofs.Ytgpcjdhlijompaa.ore
namespace Go.Proofs.Ytgpcjdhlijompaa.ore
open Go.GE Go.ChangeShapes Go.WideShapes Go.RowKit
set_option linter.unusedVariables false
set_option linter.unusedSimpArgs false
set_option maxRecDepth 100000
variable {H : Type} {enc : TypeId × Value → H}
/-- an array of integers as it is handed over -/
theorem open_arr_ints {P : Program} {W : World} {base b0 n : Nat} {r : Reach} {sp : Nat → Bool} {held : Bool} {t e : TypeId} {k : IntKind} {v : Value} {d : DataW H} {p : List MemPlace} (ht : P.underlying t = some (.array n e)) (he : P.underlying e = some (.int k)) (hc : P.cellsOf e = 1) (hC : P.cellsOf t = n)
    (hv : Value.okWide P W r b0 t v) (hd : DataW.Trod enc P W base sp held t v d p) : ∃ zs : List Int, zs.length = n ∧ v = .agg (zs.map (.int k)).toArray ∧ ∀ z ∈ zs, (Lit.int k z).wf = true := by
  simp only [Value.okWide, ht] at hv
  obtain ⟨cs, rfl, h2, _⟩ := hv
  rw [hC] at h2
  obtain ⟨fuel, hf⟩ := hd
  obtain ⟨xs, m, _, _, _, hxl, hx⟩ := DataW.trod_array ht hf
  have key : ∀ i, i < n → ∃ a : Int, cs[i]? = some (.int k a) ∧ (Lit.int k a).wf = true := by
    intro i hi
    have h := hx i hi
    rw [hc, Nat.mul_one, List.getElem?_eq_getElem (by omega)] at h
    obtain ⟨a, e1, _, e2⟩ := DataW.trod_int he h
    refine ⟨a, ?_, e2⟩
    have hcl : (Value.agg cs).cells = cs := rfl
    rw [hcl] at e1
    have : (List.take 1 (List.drop i cs.toList))[0]? = some (.int k a) := by rw [e1]; rfl
    simpa using this
  refine ⟨cs.toList.map fun v => match v with | .int _ a => a | _ => 0, by simpa using h2, ?_, ?_⟩
  · congr 1
    apply Array.ext'
    apply List.ext_getElem?
    intro i
    simp only [List.getElem?_map]
    by_cases hi : i < n
    · obtain ⟨a, ha, _⟩ := key i hi
      simp [ha]
    · rw [Array.getElem?_toList, Array.getElem?_eq_none (by omega)]; simp [hi, h2]
  · intro z hz
    rw [List.mem_map] at hz
    obtain ⟨v, hv, rfl⟩ := hz
    obtain ⟨i, hi, rfl⟩ := List.getElem_of_mem hv
    obtain ⟨a, ha, hw⟩ := key i (by simpa [h2] using hi)
    have : cs.toList[i] = .int k a := by
      have := List.getElem?_eq_getElem hi
      rw [Array.getElem?_toList, ha] at this
      exact (Option.some.inj this).symm
    rw [this]; exact hw
theorem u8_of {z : Int} (h : (Lit.int .u8 z).wf = true) : 0 ≤ z ∧ z ≤ 255 := by simpa [Lit.wf, IntKind.min, IntKind.max, IntKind.signed, IntKind.bits] using h
/-- a land as it is handed over -/
theorem open_land {W : World} {base b0 : Nat} {v : Value} {d : DataW H} {p : List MemPlace} (hv : Value.okWide Try.prog W .any b0 59 v) (hd : DataW.Trod enc Try.prog W base (fun _ => true) true 59 v d p) :
    ∃ (a b c : Nat), (a < 256 ∧ b < 256 ∧ c < 256) ∧ ((v = ldn a b c) ∨ ∃ (zs : List Int) (mb : MB), Win W mb (.cells (zs.map (.int .u8)) 1 true false) ∧ zs.length ≤ maxLen ∧ (∀ z ∈ zs, 0 ≤ z ∧ z ≤ 255) ∧
      ∀ (m : Mp), m 0 = some mb → VR m (ldv a b c 0 0 zs.length zs.length) v) := by
  obtain ⟨c0, c1, c2, c3, y0, y1, y2, y3, n, rfl, _, _, t0, t1, t2, t3⟩ := Joins.open_agg4 Try.underlying59 (by kernel_rfl) (by kernel_rfl) hv hd
  obtain ⟨w, e0, _, w0⟩ := DataW.trod_int Try.underlying5 t0
  obtain ⟨hh, e1, _, w1⟩ := DataW.trod_int Try.underlying5 t1
  obtain ⟨o, e2, _, w2⟩ := DataW.trod_int Try.underlying5 t2
  cases e0; cases e1; cases e2
  have w0 := u8_of w0; have w1 := u8_of w1; have w2 := u8_of w2
  obtain ⟨w, rfl⟩ : ∃ k : Nat, w = k := ⟨w.toNat, by omega⟩
  obtain ⟨hh, rfl⟩ : ∃ k : Nat, hh = k := ⟨hh.toNat, by omega⟩
  obtain ⟨o, rfl⟩ : ∃ k : Nat, o = k := ⟨o.toNat, by omega⟩
  refine ⟨w, hh, o, ⟨by omega, by omega, by omega⟩, ?_⟩
  have hc : Cell.okWide Try.prog W .any b0 57 c3 := okWide_cell (ts := [5, 5, 5, 57]) Try.underlying59 (by kernel_rfl) hv 3 (by decide) c3 rfl
  rcases open_slice_ints Try.underlying57 Try.underlying5 (by kernel_rfl) hc t3 with rfl | ⟨zs, mb, hw, hvr, hz, hl⟩
  · exact .inl rfl
  · refine .inr ⟨zs, mb, hw, hl, fun z h => u8_of (hz z h), fun m hm => ?_⟩
    exact .agg (.cons (.int _ _) (.cons (.int _ _) (.cons (.int _ _) (.cons (hvr m 0 hm) .nil))))
/-- four numbers as they are handed over -/
theorem open_ar4 {W : World} {base b0 : Nat} {v : Value} {d : DataW H} {p : List MemPlace} (hv : Value.okWide Try.prog W .any b0 60 v) (hd : DataW.Trod enc Try.prog W base (fun _ => true) true 60 v d p) :
    ∃ (p q r s : Nat), (p < 256 ∧ q < 256 ∧ r < 256 ∧ s < 256) ∧ v = ar4 p q r s := by
  obtain ⟨zs, hl, rfl, hz⟩ := open_arr_ints Try.underlying60 Try.underlying5 (by kernel_rfl) (by kernel_rfl) hv hd
  match zs, hl with
  | [z0, z1, z2, z3], _ =>
    have w0 := u8_of (hz z0 (by simp)); have w1 := u8_of (hz z1 (by simp)); have w2 := u8_of (hz z2 (by simp)); have w3 := u8_of (hz z3 (by simp))
    obtain ⟨p, rfl⟩ : ∃ k : Nat, z0 = k := ⟨z0.toNat, by omega⟩
    obtain ⟨q, rfl⟩ : ∃ k : Nat, z1 = k := ⟨z1.toNat, by omega⟩
    obtain ⟨r, rfl⟩ : ∃ k : Nat, z2 = k := ⟨z2.toNat, by omega⟩
    obtain ⟨s, rfl⟩ : ∃ k : Nat, z3 = k := ⟨z3.toNat, by omega⟩
    exact ⟨p, q, r, s, ⟨by omega, by omega, by omega, by omega⟩, rfl⟩
theorem VR_ar4 {m : Mp} {p q r s : Nat} : VR m (ar4 p q r s) (ar4 p q r s) := .agg (.cons (.int _ _) (.cons (.int _ _) (.cons (.int _ _) (.cons (.int _ _) .nil))))
/-- the numbers of a land and of its block -/
theorem land_dims (a b d p q r s : Nat) : ∃ (W HH : Nat) (O : Int) (X Y BW BH : Nat), (2 ≤ W ∧ W ≤ 6) ∧ (2 ≤ HH ∧ HH ≤ 6) ∧ (0 ≤ O ∧ O < 80) ∧ (2 : Int) + Int.tmod (a : Int) 5 = W ∧ (2 : Int) + Int.tmod (b : Int) 5 = HH ∧ Int.tmod (d : Int) 80 = O ∧
    Int.tmod (p : Int) ((W : Int) - 1) = X ∧ Int.tmod (q : Int) ((HH : Int) - 1) = Y ∧ (1 : Int) + Int.tmod (r : Int) ((W : Int) - 1 - X) = BW ∧ (1 : Int) + Int.tmod (s : Int) ((HH : Int) - 1 - Y) = BH ∧ Part W HH X Y BW BH := by
  have hx := Nat.mod_lt p (y := 2 + a % 5 - 1) (by omega)
  have hy := Nat.mod_lt q (y := 2 + b % 5 - 1) (by omega)
  have hw := Nat.mod_lt r (y := 2 + a % 5 - 1 - p % (2 + a % 5 - 1)) (by omega)
  have hh := Nat.mod_lt s (y := 2 + b % 5 - 1 - q % (2 + b % 5 - 1)) (by omega)
  have tm : ∀ (u v : Nat) (i : Int), i = (v : Int) → Int.tmod (u : Int) i = ((u % v : Nat) : Int) := fun u v i h => by subst h; rfl
  refine ⟨2 + a % 5, 2 + b % 5, ((d % 80 : Nat) : Int), p % (2 + a % 5 - 1), q % (2 + b % 5 - 1), 1 + r % (2 + a % 5 - 1 - p % (2 + a % 5 - 1)), 1 + s % (2 + b % 5 - 1 - q % (2 + b % 5 - 1)), by omega, by omega, by omega, ?_, ?_, ?_, ?_, ?_, ?_, ?_, ?_⟩
  · rw [tm a 5 5 rfl]; omega
  · rw [tm b 5 5 rfl]; omega
  · rw [tm d 80 80 rfl]
  · exact tm _ _ _ (by omega)
  · exact tm _ _ _ (by omega)
  · rw [tm r (2 + a % 5 - 1 - p % (2 + a % 5 - 1)) _ (by omega)]; omega
  · rw [tm s (2 + b % 5 - 1 - q % (2 + b % 5 - 1)) _ (by omega)]; omega
  · exact ⟨by omega, by omega, by omega, by omega, by omega, by omega⟩
end Go.Proofs.Ytgpcjdhlijompaa.ore
