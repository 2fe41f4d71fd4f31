/-
  Contracts of functions of the program at the limit evaluator, continued. No condition.
-/
import Derived.Test.YtfccmddkblbeoaaRD1
import Derived.Test.YtfccmddkblbeoaaE40
namespace Go.Proofs.Ytfccmddkblbeoaa.rk
open Go.GE
set_option linter.unusedVariables false
set_option linter.unusedSimpArgs false
set_option linter.unusedSectionVars false
set_option maxRecDepth 100000
set_option maxHeartbeats 4000000
attribute [local simp] runOps_nil runOps_cons runOpsF_nil runOpsF_cons fstS_some fstF_some opStep_eq want_none oStep_true oStep_false fin_pure fin_read fin_alloc fin_write storeB wrN cellV addWr o_move o_assign o_pick o_alloc o_box o_load o_store o_nilCheck o_bin o_un o_extract o_callV o_callB o_callI callV_f callV_y callV_fc o_makeFunc partsA Instr.fill builtin_len builtin_max2 bin_add bin_sub bin_mul bin_quo bin_rem bin_lss bin_leq bin_gtr bin_geq bin_eql bin_neq un_neg un_not bin_shr bin_shl wrap_u64_id opd opds optAll putO nbeq nblt constOk isC ops sub cl cr co bodyOf thenS_normal thenS_ret thenS_exit thenS_goto afterN_normal afterN_ret afterN_exit afterN_goto condS_true condS_false blockS_normal blockS_ret blockS_exit blockS_goto headS normS normK_eq fixS_nil fixS_cons fix1 fixV emptyB keepO_nil keepO_cons roundC_normal roundC_exit roundC_ret roundC_goto sweep_eq sweepD rnm pickR pickW rootsB ptrT renT ptrFn renFn ptrB_flat ptrB_non renB_flat renB_non plainS_some drawS_some fpsOk disj unord range' dropTo enumT undef wrap_i64_id Value.cells mkCells ptrTo scal cellsAt rdN endS_ret resultsA Option.bind_some tupV finish reachN dep ptrL_eq ptrL renL_eq renL ptrV_bool ptrV_int ptrV_string ptrV_nilFunc ptrV_nilIface ptrV_nilPtr ptrV_ptr ptrV_nilSl ptrV_sl ptrV_iface ptrV_agg ptrV_tuple ptrV_func renV_bool renV_int renV_string renV_nilFunc renV_nilIface renV_nilPtr renV_ptr renV_nilSl renV_sl renV_iface renV_agg renV_tuple renV_func gotoS_goto gotoS_normal gotoS_exit gotoS_ret skip_seq sliceE bnd bndHi intOf optOpd keepT_nil keepT_cons keepC_t keepC_f lk_nil lk_cons lkC_t lkC_f has_nil has_cons hasC_t hasC_f rep_nil rep_cons repC_t repC_f put_eq putC_t putC_f mem_nil mem_cons memC_t memC_f idx_nil idx_cons idxC_t idxC_f reach_nil reachP_cons reachQ_t reachQ_f ptrB_dead renB_dead ins_eq
attribute [local simp] n70_1s n70_3s n70_4s n70_2s n70_0s Try.f70 n80_1s n80_3s n80_6s n80_10s n80_13s n80_14s n80_12s n80_18s n80_20s n80_22s n80_23s n80_21s n80_19s n80_17s n80_16s n80_24s n80_15s n80_11s n80_9s n80_8s n80_8g n80_7s n80_5s n80_26s n80_27s n80_25s n80_4s n80_2s n80_0s Try.f80 n60_1s n60_3s n60_6s n60_9s n60_10s n60_8s n60_11s n60_7s n60_5s n60_13s n60_14s n60_12s n60_4s n60_2s n60_0s Try.f60
def nx2 (l : Nat → Int × Int) (n x y : Nat) : Nat → Nat → Bool := fun M i => nxB l n M i && (!decide (i = y) || M.testBit x)
theorem nx2_bit {l : Nat → Int × Int} {n x y M i : Nat} (h : nx2 l n x y M i = true) : M.testBit i = false := by
  unfold nx2 at h
  rw [Bool.and_eq_true] at h
  exact nxB_bit h.1
theorem k70 (M i x y b1 b2 : Nat) (hM : M < 2 ^ 32) (hx : x < 32) {h : List Blk} (h1 : h[b1]? = some (.cells [iv y] 1 true true)) (h2 : h[b2]? = some (.cells [iv x] 1 true true)) (hne : b1 ≠ b2) : callH LL 70 [wv M, iv i, pp b1, pp b2] h = some ⟨.bool (!decide (i = y) || M.testBit x), h, [b1, b2], []⟩ := by
  refine callH_2 (args' := [wv M, iv i, pp 0, pp 1]) rfl h1 h2 hne noIdB_flat noIdB_flat (by simp [renV, dep, optAll, idx, nbeq, hne, Ne.symm hne]) (go (by decide) ?_) fun _ => rfl
  have a := k71 M x hM hx
  rw [run70 _ _ _ (by simp)]
  by_cases e : i = y
  · subst e
    simp (maxSteps := 1000000) (disch := first | omega | decide | assumption | simp [scal]) [loadA_eq ia_3, want_some q70_3g3, a]
  · have e' : ¬ (i : Int) = y := by omega
    simp (maxSteps := 1000000) (disch := first | omega | decide | assumption | simp [scal]) [loadA_eq ia_3, want_some q70_3g3, a, e, e']
section
variable (off n c x y : Nat) (cs : List Value) (own : Bool)
abbrev HR1 (es eb : List (Nat × Nat)) : List Blk := [.cells [.map (some 1), .func (.func 80) #[] #[pp 2, pp 4, pp 7]] 1 false true, fmB es, .cells [sl 3 off n c] 1 false true, .cells cs 2 true own, .cells [.func (.func 70) #[] #[pp 5, pp 6]] 1 false true,
  .cells [iv y] 1 true true, .cells [iv x] 1 true true, .cells [pp 8] 1 false true, .cells [sl 3 off n c, pp 0, pp 9] 1 false true, .cells [.map (some 10), .func (.func 81) #[] #[pp 2, pp 7]] 1 false true, fmB eb]
abbrev HC1 (es eb : List (Nat × Nat)) : List Blk := [.cells [sl 1 off n c] 1 false true, .cells cs 2 true own, .cells [.func (.func 70) #[] #[pp 3, pp 4]] 1 false true, .cells [iv y] 1 true true, .cells [iv x] 1 true true, .cells [pp 6] 1 false true, .cells [sl 1 off n c, pp 7, pp 9] 1 false true,
  .cells [.map (some 8), .func (.func 80) #[] #[pp 0, pp 2, pp 5]] 1 false true, fmB es, .cells [.map (some 10), .func (.func 81) #[] #[pp 0, pp 5]] 1 false true, fmB eb]
theorem rchCb (es eb : List (Nat × Nat)) : reach (HC1 off n c x y cs own es eb) 0 reachN [7] [] = [7, 8, 0, 1, 2, 3, 4, 5, 6, 9, 10] := by
  simp only [reachP_cons, nblt, nbeq, mem_nil, mem_cons, memC_t, memC_f, reachQ_f, reachQ_t, Bool.or_false, Bool.or_true, Bool.false_or, Bool.true_or, decide_false, decide_true, Nat.not_lt_zero, rootsB, List.getElem?_cons_succ, List.getElem?_cons_zero, ptrB_non, ptrB_flat, ptrL_eq, ptrL, ptrV_bool, ptrV_int, ptrV_string, ptrV_nilFunc, ptrV_nilIface, ptrV_nilPtr, ptrV_nilSl, ptrV_iface, ptrV_agg, ptrV_tuple, ptrV_func, ptrV_ptr, ptrV_sl, dep, ptrFn, List.nil_append, List.cons_append, List.append_nil, reach_nil, reachN, Nat.reduceEqDiff, Nat.reduceAdd, Nat.reduceSub, reduceCtorEq, Nat.reduceLT, Nat.lt_irrefl, List.flatMap_cons, List.flatMap_nil, optAll, renL_eq, renL, renB_flat, renB_non, renV_bool, renV_int, renV_string, renV_nilFunc, renV_nilIface, renV_nilPtr, renV_ptr, renV_nilSl, renV_sl, renV_iface, renV_agg, renV_tuple, renV_func, renFn, idx_nil, idx_cons, idxC_t, idxC_f, Option.map_some, Option.map_none, fm_ptr, ptrV_map]
theorem pickCb (es eb : List (Nat × Nat)) : optAll (pickB (HC1 off n c x y cs own es eb) (idx [7, 8, 0, 1, 2, 3, 4, 5, 6, 9, 10])) [7, 8, 0, 1, 2, 3, 4, 5, 6, 9, 10] = some (HR1 off n c x y cs own es eb) := by
  simp (maxSteps := 1000000) (disch := first | omega | decide | assumption | simp [scal]) [pickB, renV_map, fm_ren]
theorem callG1 {es es' eb : List (Nat × Nat)} {M v : Nat} {ws : List (Nat × Blk)} (h : LL.run 60 [pp 0, wv M] (HR1 off n c x y cs own es eb) = some ⟨iv v, [], ws⟩) (hw : (ws = [] ∧ es' = es) ∨ ws = [(1, fmB es')]) :
    ∃ wr, ((wr = [] ∧ es' = es) ∨ wr = [8]) ∧ callH LL 60 [pp 7, wv M] (HC1 off n c x y cs own es eb) = some ⟨iv v, HC1 off n c x y cs own es' eb, [7, 8, 0, 1, 2, 3, 4, 5, 6, 9, 10], wr⟩ := by
  rcases hw with ⟨rfl, rfl⟩ | rfl
  · exact ⟨[], .inl ⟨rfl, rfl⟩, callH_lit (by intro _; first | trivial | rfl) rfl (rchCb ..) rfl (pickCb ..) h (by simp [mergeB, renV_int, dep, optAll]) (by simp)⟩
  · exact ⟨[8], .inr rfl, callH_lit (by intro _; first | trivial | rfl) rfl (rchCb ..) rfl (pickCb ..) h (by simp [mergeB, renV_int, dep, optAll, fm_ren]) (by simp)⟩
end
section
variable (off n c x y : Nat) {cs : List Value} {own : Bool} {l : Nat → Int × Int}
theorem l80b (hxn : x < n) (hc : SpC cs off n l) (hn : n ≤ 12) (eb : List (Nat × Nat)) (k : Nat) (hget : GetOK (nx2 l n x y) (HR1 off n c x y cs own) n k eb) (M : Nat) (hM : M < 2 ^ n) (hk : cntU n M = k + 1) :
    ∀ (q j a : Nat) (es : List (Nat × Nat)) (wr : List Nat), j + q = n → InvR (nx2 l n x y) n es → (wr = [] ∨ wr = [8]) → a + q * n ^ k ≤ 1000000000000000 →
    ∃ es' wr', InvR (nx2 l n x y) n es' ∧ ((wr' = wr ∧ es' = es) ∨ wr' = [8]) ∧
      lpB Try.prog LL ⟨80, 35, 11, none⟩ n80_8 n80_9 ⟨[(0, wv M), (1, pp 0), (2, pp 2), (3, pp 5), (6, iv a), (9, iv n), (10, iv j)], HC1 off n c x y cs own es eb, wr⟩ =
      some (.exit 0, ⟨[(6, iv (cS (cF (nx2 l n x y) n k M) q j a : Nat))], HC1 off n c x y cs own es' eb, wr'⟩) := by
  have hM32 : M < 2 ^ 32 := Nat.lt_of_lt_of_le hM (Nat.pow_le_pow_right (by decide) (by omega))
  intro q
  induction q with
  | zero =>
    intro j a es wr hj hi hw hb
    obtain rfl : j = n := by omega
    refine ⟨es, wr, hi, .inl ⟨rfl, rfl⟩, ?_⟩
    simp only [cS]
    rw [lpB_eq]
    rcases hw with rfl | rfl
    · simp (maxSteps := 1000000) (disch := first | omega | decide | assumption | simp [scal]) [loadA_eq ia_78, lenA_sl lk_78, loadA_eq ia_79, loadA_eq ia_85, o_fieldAddr fa_90_1 (by decide), loadA_eq ia_88, want_some q80_20g4, fm_ptr, fm_ren, ptrV_map, renV_map]
    · simp (maxSteps := 1000000) (disch := first | omega | decide | assumption | simp [scal]) [loadA_eq ia_78, lenA_sl lk_78, loadA_eq ia_79, loadA_eq ia_85, o_fieldAddr fa_90_1 (by decide), loadA_eq ia_88, want_some q80_20g4, fm_ptr, fm_ren, ptrV_map, renV_map]
  | succ q ih =>
    intro j a es wr hj hi hw hb
    have e0 : j < n := by omega
    have e1 : (j : Int) < n := by omega
    have a1 := fun b0 bx => k53 1 off n c (h := b0 :: .cells cs 2 true own :: bx) rfl hc (by omega) M j hM32 e0
    have a2 := k54 M j hM32 (by omega)
    have a3 := fun b0 b1 b2 bx => k70 M j x y 3 4 hM32 (by omega) (h := b0 :: b1 :: b2 :: .cells [iv y] 1 true true :: .cells [iv x] 1 true true :: bx) rfl rfl (by decide)
    rw [Nat.add_mul] at hb
    cases h : nx2 l n x y M j
    · have hf : cF (nx2 l n x y) n k M j = 0 := by simp only [cF, h, cond_false]
      obtain ⟨es', wr', i1, i2, i3⟩ := ih (j + 1) (a + 0) es wr (by omega) hi hw (by omega)
      refine ⟨es', wr', i1, i2, ?_⟩
      simp only [cS, hf]
      simp only [cast1, Nat.add_zero] at i3 ⊢
      generalize cS (cF (nx2 l n x y) n k M) q (j + 1) a = Z at *
      rw [lpB_eq]
      clear ih hget hf
      unfold nx2 at h
      generalize nxB l n M j = p at *
      generalize (!decide (j = y) || M.testBit x) = m at *
      cases p <;> cases m <;> (try (simp at h; done)) <;> rcases hw with rfl | rfl
      · simp (maxSteps := 1000000) (disch := first | omega | decide | assumption | simp [scal]) [loadA_eq ia_78, lenA_sl lk_78, loadA_eq ia_79, loadA_eq ia_85, o_fieldAddr fa_90_1 (by decide), loadA_eq ia_88, want_some q80_20g4, e0, e1, a1, a3, callV_f, callV_fc, fm_ptr, fm_ren, ptrV_map, renV_map, i3]
      · simp (maxSteps := 1000000) (disch := first | omega | decide | assumption | simp [scal]) [loadA_eq ia_78, lenA_sl lk_78, loadA_eq ia_79, loadA_eq ia_85, o_fieldAddr fa_90_1 (by decide), loadA_eq ia_88, want_some q80_20g4, e0, e1, a1, a3, callV_f, callV_fc, fm_ptr, fm_ren, ptrV_map, renV_map, i3]
      · simp (maxSteps := 1000000) (disch := first | omega | decide | assumption | simp [scal]) [loadA_eq ia_78, lenA_sl lk_78, loadA_eq ia_79, loadA_eq ia_85, o_fieldAddr fa_90_1 (by decide), loadA_eq ia_88, want_some q80_20g4, e0, e1, a1, a3, callV_f, callV_fc, fm_ptr, fm_ren, ptrV_map, renV_map, i3]
      · simp (maxSteps := 1000000) (disch := first | omega | decide | assumption | simp [scal]) [loadA_eq ia_78, lenA_sl lk_78, loadA_eq ia_79, loadA_eq ia_85, o_fieldAddr fa_90_1 (by decide), loadA_eq ia_88, want_some q80_20g4, e0, e1, a1, a3, callV_f, callV_fc, fm_ptr, fm_ren, ptrV_map, renV_map, i3]
      · simp (maxSteps := 1000000) (disch := first | omega | decide | assumption | simp [scal]) [loadA_eq ia_78, lenA_sl lk_78, loadA_eq ia_79, loadA_eq ia_85, o_fieldAddr fa_90_1 (by decide), loadA_eq ia_88, want_some q80_20g4, e0, e1, a1, a3, callV_f, callV_fc, fm_ptr, fm_ren, ptrV_map, renV_map, i3]
      · simp (maxSteps := 1000000) (disch := first | omega | decide | assumption | simp [scal]) [loadA_eq ia_78, lenA_sl lk_78, loadA_eq ia_79, loadA_eq ia_85, o_fieldAddr fa_90_1 (by decide), loadA_eq ia_88, want_some q80_20g4, e0, e1, a1, a3, callV_f, callV_fc, fm_ptr, fm_ren, ptrV_map, renV_map, i3]
    · have hb0 := nx2_bit h
      have hq := h
      unfold nx2 at hq
      rw [Bool.and_eq_true] at hq
      rw [hq.1] at a1
      rw [hq.2] at a3
      have hcn := cntU_lt hb0 n e0
      have h2 : M ||| 2 ^ j < 2 ^ n := Nat.or_lt_two_pow hM (Nat.pow_lt_pow_right (by decide) e0)
      obtain ⟨es1, ws, g1, g2, g3⟩ := hget es (M ||| 2 ^ j) hi h2 (by omega)
      obtain ⟨wr1, g4, g5⟩ := callG1 off n c x y cs own g3 g2
      have hf : cF (nx2 l n x y) n k M j = cR (nx2 l n x y) n k (M ||| 2 ^ j) := by simp only [cF, h, cond_true]
      have hv : cR (nx2 l n x y) n k (M ||| 2 ^ j) ≤ n ^ k := cR_le _ _
      simp only [cS, hf]
      generalize cR (nx2 l n x y) n k (M ||| 2 ^ j) = v at *
      generalize M ||| 2 ^ j = M2 at *
      clear g3 hf h2 hcn
      have hwrap : IntKind.i64.wrap ((a : Int) + (v : Int)) = ((a + v : Nat) : Int) := by rw [wrap_i64_id (by omega) (by omega)]; rfl
      have go : ∀ wr2, (wr2 = [] ∨ wr2 = [8]) → ((wr2 = wr ∧ es1 = es) ∨ wr2 = [8]) → _ := fun wr2 x y => ih (j + 1) (a + v) es1 wr2 (by omega) g1 x (by omega)
      clear ih hget
      rcases g4 with ⟨rfl, rfl⟩ | rfl
      · obtain ⟨es', wr', i1, i2, i3⟩ := go wr hw (.inl ⟨rfl, rfl⟩)
        refine ⟨es', wr', i1, i2, ?_⟩
        simp only [cast1] at i3 ⊢
        generalize cS (cF (nx2 l n x y) n k M) q (j + 1) (a + v) = Z at *
        generalize ((a + v : Nat) : Int) = av at *
        rw [lpB_eq]
        rcases hw with rfl | rfl
        · simp (maxSteps := 1000000) (disch := first | omega | decide | assumption | simp [scal]) [loadA_eq ia_78, lenA_sl lk_78, loadA_eq ia_79, loadA_eq ia_85, o_fieldAddr fa_90_1 (by decide), loadA_eq ia_88, want_some q80_20g4, e0, e1, a1, a2, a3, g5, hwrap, callV_f, callV_fc, fm_ptr, fm_ren, ptrV_map, renV_map, i3]
        · simp (maxSteps := 1000000) (disch := first | omega | decide | assumption | simp [scal]) [loadA_eq ia_78, lenA_sl lk_78, loadA_eq ia_79, loadA_eq ia_85, o_fieldAddr fa_90_1 (by decide), loadA_eq ia_88, want_some q80_20g4, e0, e1, a1, a2, a3, g5, hwrap, callV_f, callV_fc, fm_ptr, fm_ren, ptrV_map, renV_map, i3]
      · obtain ⟨es', wr', i1, i2, i3⟩ := go [8] (.inr rfl) (.inr rfl)
        refine ⟨es', wr', i1, .inr (by rcases i2 with ⟨h1, _⟩ | h1 <;> exact h1), ?_⟩
        simp only [cast1] at i3 ⊢
        generalize cS (cF (nx2 l n x y) n k M) q (j + 1) (a + v) = Z at *
        generalize ((a + v : Nat) : Int) = av at *
        rw [lpB_eq]
        rcases hw with rfl | rfl
        · simp (maxSteps := 1000000) (disch := first | omega | decide | assumption | simp [scal]) [loadA_eq ia_78, lenA_sl lk_78, loadA_eq ia_79, loadA_eq ia_85, o_fieldAddr fa_90_1 (by decide), loadA_eq ia_88, want_some q80_20g4, e0, e1, a1, a2, a3, g5, hwrap, callV_f, callV_fc, fm_ptr, fm_ren, ptrV_map, renV_map, i3]
        · simp (maxSteps := 1000000) (disch := first | omega | decide | assumption | simp [scal]) [loadA_eq ia_78, lenA_sl lk_78, loadA_eq ia_79, loadA_eq ia_85, o_fieldAddr fa_90_1 (by decide), loadA_eq ia_88, want_some q80_20g4, e0, e1, a1, a2, a3, g5, hwrap, callV_f, callV_fc, fm_ptr, fm_ren, ptrV_map, renV_map, i3]
end
section
variable (off n c x y : Nat) {cs : List Value} {own : Bool} {l : Nat → Int × Int}
theorem rchRb (es eb : List (Nat × Nat)) : reach (HR1 off n c x y cs own es eb) 0 reachN [2, 4, 7] [] = [2, 3, 4, 5, 6, 7, 8, 0, 1, 9, 10] := by
  simp only [reachP_cons, nblt, nbeq, mem_nil, mem_cons, memC_t, memC_f, reachQ_f, reachQ_t, Bool.or_false, Bool.or_true, Bool.false_or, Bool.true_or, decide_false, decide_true, Nat.not_lt_zero, rootsB, List.getElem?_cons_succ, List.getElem?_cons_zero, ptrB_non, ptrB_flat, ptrL_eq, ptrL, ptrV_bool, ptrV_int, ptrV_string, ptrV_nilFunc, ptrV_nilIface, ptrV_nilPtr, ptrV_nilSl, ptrV_iface, ptrV_agg, ptrV_tuple, ptrV_func, ptrV_ptr, ptrV_sl, dep, ptrFn, List.nil_append, List.cons_append, List.append_nil, reach_nil, reachN, Nat.reduceEqDiff, Nat.reduceAdd, Nat.reduceSub, reduceCtorEq, Nat.reduceLT, Nat.lt_irrefl, List.flatMap_cons, List.flatMap_nil, optAll, renL_eq, renL, renB_flat, renB_non, renV_bool, renV_int, renV_string, renV_nilFunc, renV_nilIface, renV_nilPtr, renV_ptr, renV_nilSl, renV_sl, renV_iface, renV_agg, renV_tuple, renV_func, renFn, idx_nil, idx_cons, idxC_t, idxC_f, Option.map_some, Option.map_none, fm_ptr, ptrV_map]
theorem pickR1 (es eb : List (Nat × Nat)) : optAll (pickB (HR1 off n c x y cs own es eb) (idx [2, 3, 4, 5, 6, 7, 8, 0, 1, 9, 10])) [2, 3, 4, 5, 6, 7, 8, 0, 1, 9, 10] = some (HC1 off n c x y cs own es eb) := by
  simp (maxSteps := 1000000) (disch := first | omega | decide | assumption | simp [scal]) [pickB, renV_map, fm_ren]
theorem c80b (hxn : x < n) (hc : SpC cs off n l) (hn : n ≤ 12) (eb : List (Nat × Nat)) (k : Nat) (hget : GetOK (nx2 l n x y) (HR1 off n c x y cs own) n k eb) (M : Nat) (hM : M < 2 ^ n) (hk : cntU n M = k + 1) (es : List (Nat × Nat)) (hi : InvR (nx2 l n x y) n es) :
    ∃ es' wr, InvR (nx2 l n x y) n es' ∧ ((wr = [] ∧ es' = es) ∨ wr = [1]) ∧ callH LL 80 [wv M, pp 2, pp 4, pp 7] (HR1 off n c x y cs own es eb) = some ⟨iv (cR (nx2 l n x y) n (k + 1) M : Nat), HR1 off n c x y cs own es' eb, [2, 3, 4, 5, 6, 7, 8, 0, 1, 9, 10], wr⟩ := by
  have hkn : k + 1 ≤ n := by have := cntU_le (n := n) (M := M); omega
  have hp := pow_le12 hn (show k ≤ 12 by omega)
  have hnp : n * n ^ k ≤ 12 * 8916100448256 := Nat.mul_le_mul hn hp
  obtain ⟨es', wr', i1, i2, i3⟩ := l80b off n c x y (own := own) hxn hc hn eb k hget M hM hk n 0 0 es [] (by omega) hi (.inl rfl) (by omega)
  have hrun : LL.run 80 [wv M, pp 0, pp 2, pp 5] (HC1 off n c x y cs own es eb) = some ⟨iv (cR (nx2 l n x y) n (k + 1) M : Nat), [], wr'.map fun b => (b, fmB es')⟩ := by
    refine go (by decide) ?_
    rw [run80 _ _ _ (by simp)]
    have hR : cR (nx2 l n x y) n (k + 1) M = cS (cF (nx2 l n x y) n k M) n 0 0 := rfl
    rw [hR]
    generalize cS (cF (nx2 l n x y) n k M) n 0 0 = Z at *
    clear hget
    simp only [Int.natCast_zero] at i3
    rcases i2 with ⟨rfl, rfl⟩ | rfl
    · simp (maxSteps := 1000000) (disch := first | omega | decide | assumption | simp [scal]) [loadA_eq ia_78, lenA_sl lk_78, loadA_eq ia_79, loadA_eq ia_85, o_fieldAddr fa_90_1 (by decide), loadA_eq ia_88, want_some q80_20g4, i3, fm_ptr, fm_ren, ptrV_map, renV_map]
    · simp (maxSteps := 1000000) (disch := first | omega | decide | assumption | simp [scal]) [loadA_eq ia_78, lenA_sl lk_78, loadA_eq ia_79, loadA_eq ia_85, o_fieldAddr fa_90_1 (by decide), loadA_eq ia_88, want_some q80_20g4, i3, fm_ptr, fm_ren, ptrV_map, renV_map]
  rcases i2 with ⟨rfl, rfl⟩ | rfl
  · exact ⟨es', [], i1, .inl ⟨rfl, rfl⟩, callH_lit (by intro _; first | trivial | rfl) rfl (rchRb ..) rfl (pickR1 ..) hrun (by simp [mergeB, renV_int, dep, optAll]) (by simp)⟩
  · exact ⟨es', [1], i1, .inr rfl, callH_lit (by intro _; first | trivial | rfl) rfl (rchRb ..) rfl (pickR1 ..) hrun (by simp [mergeB, renV_int, dep, optAll, fm_ren]) (by simp)⟩
theorem get_okb (hxn : x < n) (hc : SpC cs off n l) (hn : n ≤ 12) (eb : List (Nat × Nat)) : ∀ k, GetOK (nx2 l n x y) (HR1 off n c x y cs own) n k eb := by
  have hit : ∀ (es : List (Nat × Nat)) (M i v : Nat), M < 2 ^ n → findA (wv M) (mE es) 0 = some (some (i, iv v)) → LL.run 60 [pp 0, wv M] (HR1 off n c x y cs own es eb) = some ⟨iv v, [], []⟩ := by
    intro es M i v hM hf
    have fL : lookM (HR1 off n c x y cs own es eb) 1 M = some ⟨.tuple #[iv v, .bool true], HR1 off n c x y cs own es eb, [1], []⟩ := look_hit rfl hf
    refine go (by decide) ?_
    rw [run60 _ _ _ (by simp)]
    simp (maxSteps := 1000000) (disch := first | omega | decide | assumption | simp [scal]) [o_fieldAddr fa_110_0 (by decide), loadA_eq ia_108, o_fieldAddr fa_110_1 (by decide), loadA_eq ia_91, o_look, look108, fL, fm_ptr, fm_ren, ptrV_map, renV_map]
  intro k
  induction k with
  | zero =>
    intro es M hi hM hk
    rcases findA_mE (M := M) es 0 with ⟨i, v, h1, h2⟩ | ⟨_, h2⟩
    · have hv := (hi.1 (M, v) (List.mem_of_getElem? h2)).2
      simp only [hk] at hv
      rw [Nat.zero_add] at h1
      refine ⟨es, [], hi, .inl ⟨rfl, rfl⟩, ?_⟩
      rw [← hv]
      exact hit es M i v hM h1
    · obtain ⟨p, hp, he⟩ := hi.2
      exact absurd (he.trans (all_bits hM hk).symm) (h2 p hp)
  | succ k ih =>
    intro es M hi hM hk
    rcases findA_mE (M := M) es 0 with ⟨i, v, h1, h2⟩ | ⟨h1, h2⟩
    · have hv := (hi.1 (M, v) (List.mem_of_getElem? h2)).2
      simp only [hk] at hv
      rw [Nat.zero_add] at h1
      refine ⟨es, [], hi, .inl ⟨rfl, rfl⟩, ?_⟩
      rw [← hv]
      exact hit es M i v hM h1
    · obtain ⟨es', wr, i1, i2, i3⟩ := c80b off n c x y (own := own) hxn hc hn eb k ih M hM hk es hi
      have hu := i1.upd hM
      rw [hk] at hu
      refine ⟨_, [(1, fmB (updE es' M (cR (nx2 l n x y) n (k + 1) M)))], hu, .inr rfl, ?_⟩
      have fL : lookM (HR1 off n c x y cs own es eb) 1 M = some ⟨.tuple #[iv 0, .bool false], HR1 off n c x y cs own es eb, [1], []⟩ := look_miss rfl h1
      generalize cR (nx2 l n x y) n (k + 1) M = Z at *
      have fU : updM (HR1 off n c x y cs own es' eb) 1 M (iv Z) = some ⟨undef, HR1 off n c x y cs own (updE es' M Z) eb, [1], [1]⟩ := upd_eq rfl
      clear ih hu hit
      refine go (by decide) ?_
      rw [run60 _ _ _ (by simp)]
      rcases i2 with ⟨rfl, rfl⟩ | rfl
      · simp (maxSteps := 1000000) (disch := first | omega | decide | assumption | simp [scal]) [o_fieldAddr fa_110_0 (by decide), loadA_eq ia_108, o_fieldAddr fa_110_1 (by decide), loadA_eq ia_91, o_look, look108, fL, o_mapU, upd108, fU, i3, callV_fc, fm_ptr, fm_ren, ptrV_map, renV_map]
      · simp (maxSteps := 1000000) (disch := first | omega | decide | assumption | simp [scal]) [o_fieldAddr fa_110_0 (by decide), loadA_eq ia_108, o_fieldAddr fa_110_1 (by decide), loadA_eq ia_91, o_look, look108, fL, o_mapU, upd108, fU, i3, callV_fc, fm_ptr, fm_ren, ptrV_map, renV_map]
end
end Go.Proofs.Ytfccmddkblbeoaa.rk
namespace Go.Proofs.Ytfccmddkblbeoaa.rk
open Go.GE
set_option linter.unusedVariables false
set_option linter.unusedSimpArgs false
set_option linter.unusedSectionVars false
set_option maxRecDepth 100000
set_option maxHeartbeats 4000000
attribute [local simp] runOps_nil runOps_cons runOpsF_nil runOpsF_cons fstS_some fstF_some opStep_eq want_none oStep_true oStep_false fin_pure fin_read fin_alloc fin_write storeB wrN cellV addWr o_move o_assign o_pick o_alloc o_box o_load o_store o_nilCheck o_bin o_un o_extract o_callV o_callB o_callI callV_f callV_y callV_fc o_makeFunc partsA Instr.fill builtin_len builtin_max2 bin_add bin_sub bin_mul bin_quo bin_rem bin_lss bin_leq bin_gtr bin_geq bin_eql bin_neq un_neg un_not bin_shr bin_shl wrap_u64_id opd opds optAll putO nbeq nblt constOk isC ops sub cl cr co bodyOf thenS_normal thenS_ret thenS_exit thenS_goto afterN_normal afterN_ret afterN_exit afterN_goto condS_true condS_false blockS_normal blockS_ret blockS_exit blockS_goto headS normS normK_eq fixS_nil fixS_cons fix1 fixV emptyB keepO_nil keepO_cons roundC_normal roundC_exit roundC_ret roundC_goto sweep_eq sweepD rnm pickR pickW rootsB ptrT renT ptrFn renFn ptrB_flat ptrB_non renB_flat renB_non plainS_some drawS_some fpsOk disj unord range' dropTo enumT undef wrap_i64_id Value.cells mkCells ptrTo scal cellsAt rdN endS_ret resultsA Option.bind_some tupV finish reachN dep ptrL_eq ptrL renL_eq renL ptrV_bool ptrV_int ptrV_string ptrV_nilFunc ptrV_nilIface ptrV_nilPtr ptrV_ptr ptrV_nilSl ptrV_sl ptrV_iface ptrV_agg ptrV_tuple ptrV_func renV_bool renV_int renV_string renV_nilFunc renV_nilIface renV_nilPtr renV_ptr renV_nilSl renV_sl renV_iface renV_agg renV_tuple renV_func gotoS_goto gotoS_normal gotoS_exit gotoS_ret skip_seq sliceE bnd bndHi intOf optOpd keepT_nil keepT_cons keepC_t keepC_f lk_nil lk_cons lkC_t lkC_f has_nil has_cons hasC_t hasC_f rep_nil rep_cons repC_t repC_f put_eq putC_t putC_f mem_nil mem_cons memC_t memC_f idx_nil idx_cons idxC_t idxC_f reach_nil reachP_cons reachQ_t reachQ_f ptrB_dead renB_dead ins_eq
attribute [local simp] n69_1s n69_3s n69_5s n69_7s n69_9s n69_11s n69_12s n69_10s n69_8s n69_6s n69_4s n69_2s n69_0s Try.f69 n33_1s n33_3s n33_7s n33_10s n33_11s n33_9s n33_13s n33_16s n33_17s n33_15s n33_19s n33_22s n33_23s n33_21s n33_24s n33_20s n33_18s n33_14s n33_12s n33_8s n33_6s n33_5s n33_26s n33_28s n33_29s n33_27s n33_25s n33_4s n33_2s n33_0s Try.f33
def inR (n : Nat) (D : Int) : Bool := decide (0 ≤ D) && decide (D ≤ (n : Int) - 1)
def beE (l : Nat → Int × Int) (n : Nat) (A B : Int) : Int := if cntE l n = 0 then (if (inR n A && inR n B) = true then (if A = B then 7 else 0) else 6) else cntE l n
def beV (l : Nat → Int × Int) (n : Nat) (A B : Int) : Value := if beE l n A B = 0 then redV (cR (nx2 l n A.toNat B.toNat) n n 0) (gR (nxB l n) n 0) else .agg #[iv 0, iv 0]
section
variable (off n c : Nat) {cs : List Value} {own : Bool} {l : Nat → Int × Int}
abbrev NW2 (es eb : List (Nat × Nat)) : List Blk := [.cells [sl 0 off n c, pp 4, pp 9] 1 false true, .cells [.map (some 5), .func (.func 80) #[] #[pp 6, pp 7, pp 8]] 1 false true, fmB es,
  .cells [sl 0 off n c] 1 false true, .cells [.func (.func 70) #[] #[pp 1, pp 2]] 1 false true, .cells [pp 3] 1 false true, .cells [.map (some 10), .func (.func 81) #[] #[pp 6, pp 8]] 1 false true, fmB eb]
theorem r69 (x y : Nat) (hn : n ≤ 30) : LL.run 69 [sl 0 off n c, .func (.func 70) #[] #[pp 1, pp 2]] [.cells cs 2 true own, .cells [iv y] 1 true true, .cells [iv x] 1 true true] = some ⟨pp 3, NW2 off n c [(2 ^ n - 1, 1)] [(0, 1)], []⟩ := by
  have f3 := shl_poww (J := n) (by omega)
  have p1 : 2 ^ n < 2 ^ 32 := Nat.pow_lt_pow_right (by decide) (by omega)
  have p0 : 0 < 2 ^ n := Nat.two_pow_pos n
  have f4 : IntKind.u32.wrap (((2 ^ n : Nat) : Int) - 1) = ((2 ^ n - 1 : Nat) : Int) := by
    rw [show ((2 ^ n : Nat) : Int) - 1 = ((2 ^ n - 1 : Nat) : Int) by omega]
    exact wrap_u32 (by omega)
  have u1 := fun b0 b1 b2 b3 b4 b5 b6 => upd_eq (h := [b0, b1, b2, b3, b4, b5, b6, fmB []]) (b := 7) (M := 2 ^ n - 1) (v := 1) (es := []) rfl
  have u2 := fun b0 b1 b2 b3 b4 b5 b6 b7 b8 => upd_eq (h := [b0, b1, b2, b3, b4, b5, b6, b7, b8, fmB []]) (b := 9) (M := 0) (v := 1) (es := []) rfl
  refine go (by decide) ?_
  have e1 : updE [] (2 ^ n - 1) 1 = [(2 ^ n - 1, 1)] := rfl
  have e2 : updE [] 0 1 = [(0, 1)] := rfl
  rw [e1] at u1
  rw [e2] at u2
  generalize hE : fmB [(2 ^ n - 1, 1)] = E at *
  generalize hB : fmB [(0, 1)] = B at *
  have q1 : ptrB E = [] := by rw [← hE]; exact fm_ptr
  have q2 : ptrB B = [] := by rw [← hB]; exact fm_ptr
  have q3 : ∀ f, renB f E = some E := by intro f; rw [← hE]; exact fm_ren
  have q4 : ∀ f, renB f B = some B := by intro f; rw [← hB]; exact fm_ren
  have m0 : Blk.map [] = fmB [] := rfl
  have z0 : ∀ h b v, updX Try.prog 108 h (some (.map (some b))) (some (.int .u32 0)) (some v) = updM h b 0 v := fun h b v => upd108 (M := 0)
  generalize 2 ^ n - 1 = A at *
  generalize ((2 ^ n : Nat) : Int) = A2 at *
  simp only [List.set_cons_succ, List.set_cons_zero] at u1 u2
  simp only [Int.natCast_zero, Int.natCast_one] at u1 u2
  rw [run69 _ _ _ (by simp)]
  simp (maxSteps := 1000000) (disch := first | omega | decide | assumption | simp [scal]) [loadA_eq ia_78, za_90, o_build za_90 pl_90, za_85, sz_85, lenA_sl lk_78, loadA_eq ia_85, za_110, o_build za_110 pl_110, o_fieldAddr fa_90_1 (by decide), sz_88, o_fieldAddr fa_90_2 (by decide), loadA_eq ia_88, f3, f4, o_insert, o_makeMap, upd108, z0, m0, u1, u2, q1, q2, q3, q4, fm_ptr, ptrV_map, renV_map]
  exact ⟨hE.symm, hB.symm⟩
/-- the blocks of Before: the month, both days' boxes, the result's cell, a counter -/
abbrev L4 (cs : List Value) (own : Bool) (x y : Nat) (es eb : List (Nat × Nat)) (rest : List Blk) : List Blk := .cells cs 2 true own :: .cells [iv x] 1 true true :: .cells [iv y] 1 true true :: .cells [iv 0, iv 0] 1 true true :: .cells [sl 0 off n c, pp 5, pp 10] 1 false true ::
  .cells [.map (some 6), .func (.func 80) #[] #[pp 7, pp 8, pp 9]] 1 false true :: fmB es :: .cells [sl 0 off n c] 1 false true :: mayB :: .cells [pp 4] 1 false true :: .cells [.map (some 11), .func (.func 81) #[] #[pp 7, pp 9]] 1 false true :: fmB eb :: rest
/-- .. and the second counter -/
abbrev R4 (es eb : List (Nat × Nat)) : List Blk := [.cells [sl 0 off n c, pp 13, pp 18] 1 false true, .cells [.map (some 14), .func (.func 80) #[] #[pp 15, pp 16, pp 17]] 1 false true, fmB es,
  .cells [sl 0 off n c] 1 false true, .cells [.func (.func 70) #[] #[pp 2, pp 1]] 1 false true, .cells [pp 12] 1 false true, .cells [.map (some 19), .func (.func 81) #[] #[pp 15, pp 17]] 1 false true, fmB eb]
theorem k59B (hc : SpC cs off n l) (hn : n ≤ 60) (b1 b2 b3 : Blk) : callH LL 59 [sl 0 off n c] [.cells cs 2 true own, b1, b2, b3] = if cntE l n = 0 then some ⟨.tuple #[pp 4, iv 0], .cells cs 2 true own :: b1 :: b2 :: b3 :: NW off n c 0 4 [(2 ^ n - 1, 1)] [(0, 1)], [0], []⟩ else some ⟨.tuple #[.pointer none, iv (cntE l n)], [.cells cs 2 true own, b1, b2, b3], [0], []⟩ := by
  have h := r59 off n c (own := own) hc hn
  by_cases h1 : cntE l n = 0
  · rw [if_pos h1] at h ⊢
    exact callH_lit (by intro _; first | trivial | rfl) (roots := [0]) rfl (ρ := [0]) (by simp only [reachP_cons, nblt, nbeq, mem_nil, mem_cons, memC_t, memC_f, reachQ_f, reachQ_t, Bool.or_false, Bool.or_true, Bool.false_or, Bool.true_or, decide_false, decide_true, Nat.not_lt_zero, rootsB, List.getElem?_cons_succ, List.getElem?_cons_zero, ptrB_non, ptrB_flat, ptrL_eq, ptrL, ptrV_bool, ptrV_int, ptrV_string, ptrV_nilFunc, ptrV_nilIface, ptrV_nilPtr, ptrV_nilSl, ptrV_iface, ptrV_agg, ptrV_tuple, ptrV_func, ptrV_ptr, ptrV_sl, dep, ptrFn, List.nil_append, List.cons_append, List.append_nil, reach_nil, reachN, Nat.reduceEqDiff, Nat.reduceAdd, Nat.reduceSub, reduceCtorEq, Nat.reduceLT, Nat.lt_irrefl, List.flatMap_cons, List.flatMap_nil, optAll, renL_eq, renL, renB_flat, renB_non, renV_bool, renV_int, renV_string, renV_nilFunc, renV_nilIface, renV_nilPtr, renV_ptr, renV_nilSl, renV_sl, renV_iface, renV_agg, renV_tuple, renV_func, renFn, idx_nil, idx_cons, idxC_t, idxC_f, Option.map_some, Option.map_none]) rfl rfl h (by simp [mergeB, renV_ptr, renV_tuple, dep, optAll, renB_non, renL, renV_sl, renV_map, renV_func, renV_int, renFn, fm_ren, renL_eq]) (by simp)
  · rw [if_neg h1] at h ⊢
    exact callH_lit (by intro _; first | trivial | rfl) (roots := [0]) rfl (ρ := [0]) (by simp only [reachP_cons, nblt, nbeq, mem_nil, mem_cons, memC_t, memC_f, reachQ_f, reachQ_t, Bool.or_false, Bool.or_true, Bool.false_or, Bool.true_or, decide_false, decide_true, Nat.not_lt_zero, rootsB, List.getElem?_cons_succ, List.getElem?_cons_zero, ptrB_non, ptrB_flat, ptrL_eq, ptrL, ptrV_bool, ptrV_int, ptrV_string, ptrV_nilFunc, ptrV_nilIface, ptrV_nilPtr, ptrV_nilSl, ptrV_iface, ptrV_agg, ptrV_tuple, ptrV_func, ptrV_ptr, ptrV_sl, dep, ptrFn, List.nil_append, List.cons_append, List.append_nil, reach_nil, reachN, Nat.reduceEqDiff, Nat.reduceAdd, Nat.reduceSub, reduceCtorEq, Nat.reduceLT, Nat.lt_irrefl, List.flatMap_cons, List.flatMap_nil, optAll, renL_eq, renL, renB_flat, renB_non, renV_bool, renV_int, renV_string, renV_nilFunc, renV_nilIface, renV_nilPtr, renV_ptr, renV_nilSl, renV_sl, renV_iface, renV_agg, renV_tuple, renV_func, renFn, idx_nil, idx_cons, idxC_t, idxC_f, Option.map_some, Option.map_none]) rfl rfl h (by simp [mergeB, renV_nilPtr, renV_tuple, dep, optAll, renL, renV_int, renL_eq]) (by simp)
theorem k69B (x y : Nat) (hn : n ≤ 30) (es eb : List (Nat × Nat)) : callH LL 69 [sl 0 off n c, .func (.func 70) #[] #[pp 2, pp 1]] (L4 off n c cs own x y es eb []) = some ⟨pp 12, L4 off n c cs own x y es eb (R4 off n c [(2 ^ n - 1, 1)] [(0, 1)]), [0, 2, 1], []⟩ :=
  callH_lit (by intro _; first | trivial | rfl) (roots := [0, 2, 1]) rfl (ρ := [0, 2, 1]) (by simp only [reachP_cons, nblt, nbeq, mem_nil, mem_cons, memC_t, memC_f, reachQ_f, reachQ_t, Bool.or_false, Bool.or_true, Bool.false_or, Bool.true_or, decide_false, decide_true, Nat.not_lt_zero, rootsB, List.getElem?_cons_succ, List.getElem?_cons_zero, ptrB_non, ptrB_flat, ptrL_eq, ptrL, ptrV_bool, ptrV_int, ptrV_string, ptrV_nilFunc, ptrV_nilIface, ptrV_nilPtr, ptrV_nilSl, ptrV_iface, ptrV_agg, ptrV_tuple, ptrV_func, ptrV_ptr, ptrV_sl, dep, ptrFn, List.nil_append, List.cons_append, List.append_nil, reach_nil, reachN, Nat.reduceEqDiff, Nat.reduceAdd, Nat.reduceSub, reduceCtorEq, Nat.reduceLT, Nat.lt_irrefl, List.flatMap_cons, List.flatMap_nil, optAll, renL_eq, renL, renB_flat, renB_non, renV_bool, renV_int, renV_string, renV_nilFunc, renV_nilIface, renV_nilPtr, renV_ptr, renV_nilSl, renV_sl, renV_iface, renV_agg, renV_tuple, renV_func, renFn, idx_nil, idx_cons, idxC_t, idxC_f, Option.map_some, Option.map_none]) rfl rfl (r69 off n c (cs := cs) (own := own) x y hn) (by simp [mergeB, renV_ptr, dep, optAll, renB_non, renL, renV_sl, renV_map, renV_func, renFn, fm_ren, renL_eq]) (by simp)
theorem rch13 (x y : Nat) (es eb es2 eb2 : List (Nat × Nat)) : reach (L4 off n c cs own x y es eb (R4 off n c es2 eb2)) 0 reachN [13] [] = [13, 14, 15, 0, 16, 2, 1, 17, 12, 18, 19] := by
  simp only [reachP_cons, nblt, nbeq, mem_nil, mem_cons, memC_t, memC_f, reachQ_f, reachQ_t, Bool.or_false, Bool.or_true, Bool.false_or, Bool.true_or, decide_false, decide_true, Nat.not_lt_zero, rootsB, List.getElem?_cons_succ, List.getElem?_cons_zero, ptrB_non, ptrB_flat, ptrL_eq, ptrL, ptrV_bool, ptrV_int, ptrV_string, ptrV_nilFunc, ptrV_nilIface, ptrV_nilPtr, ptrV_nilSl, ptrV_iface, ptrV_agg, ptrV_tuple, ptrV_func, ptrV_ptr, ptrV_sl, dep, ptrFn, List.nil_append, List.cons_append, List.append_nil, reach_nil, reachN, Nat.reduceEqDiff, Nat.reduceAdd, Nat.reduceSub, reduceCtorEq, Nat.reduceLT, Nat.lt_irrefl, List.flatMap_cons, List.flatMap_nil, optAll, renL_eq, renL, renB_flat, renB_non, renV_bool, renV_int, renV_string, renV_nilFunc, renV_nilIface, renV_nilPtr, renV_ptr, renV_nilSl, renV_sl, renV_iface, renV_agg, renV_tuple, renV_func, renFn, idx_nil, idx_cons, idxC_t, idxC_f, Option.map_some, Option.map_none, fm_ptr, ptrV_map]
theorem pick13 (x y : Nat) (es eb es2 eb2 : List (Nat × Nat)) : optAll (pickB (L4 off n c cs own x y es eb (R4 off n c es2 eb2)) (idx [13, 14, 15, 0, 16, 2, 1, 17, 12, 18, 19])) [13, 14, 15, 0, 16, 2, 1, 17, 12, 18, 19] = some (HR1 off n c x y cs own es2 eb2) := by
  simp (maxSteps := 1000000) (disch := first | omega | decide | assumption | simp [scal]) [pickB, renV_map, fm_ren]
theorem rch5 (x y : Nat) (es eb : List (Nat × Nat)) (rest : List Blk) : reach (L4 off n c cs own x y es eb rest) 0 reachN [5] [] = [5, 6, 7, 0, 8, 9, 4, 10, 11] := by
  simp only [reachP_cons, nblt, nbeq, mem_nil, mem_cons, memC_t, memC_f, reachQ_f, reachQ_t, Bool.or_false, Bool.or_true, Bool.false_or, Bool.true_or, decide_false, decide_true, Nat.not_lt_zero, rootsB, List.getElem?_cons_succ, List.getElem?_cons_zero, ptrB_non, ptrB_flat, ptrL_eq, ptrL, ptrV_bool, ptrV_int, ptrV_string, ptrV_nilFunc, ptrV_nilIface, ptrV_nilPtr, ptrV_nilSl, ptrV_iface, ptrV_agg, ptrV_tuple, ptrV_func, ptrV_ptr, ptrV_sl, dep, ptrFn, List.nil_append, List.cons_append, List.append_nil, reach_nil, reachN, Nat.reduceEqDiff, Nat.reduceAdd, Nat.reduceSub, reduceCtorEq, Nat.reduceLT, Nat.lt_irrefl, List.flatMap_cons, List.flatMap_nil, optAll, renL_eq, renL, renB_flat, renB_non, renV_bool, renV_int, renV_string, renV_nilFunc, renV_nilIface, renV_nilPtr, renV_ptr, renV_nilSl, renV_sl, renV_iface, renV_agg, renV_tuple, renV_func, renFn, idx_nil, idx_cons, idxC_t, idxC_f, Option.map_some, Option.map_none, fm_ptr, ptrV_map]
theorem pick5 (x y : Nat) (es eb : List (Nat × Nat)) (rest : List Blk) : optAll (pickB (L4 off n c cs own x y es eb rest) (idx [5, 6, 7, 0, 8, 9, 4, 10, 11])) [5, 6, 7, 0, 8, 9, 4, 10, 11] = some (HR0 off n c cs own es eb) := by
  simp (maxSteps := 1000000) (disch := first | omega | decide | assumption | simp [scal]) [pickB, renV_map, fm_ren]
theorem ask13 (x y : Nat) (hxn : x < n) (hc : SpC cs off n l) (hn : n ≤ 12) (es eb es2 eb2 : List (Nat × Nat)) (M : Nat) (hi : InvR (nx2 l n x y) n es2) (hM : M < 2 ^ n) : ∃ es' wr, ((wr = [] ∧ es' = es2) ∨ wr = [14]) ∧
    callH LL 60 [pp 13, wv M] (L4 off n c cs own x y es eb (R4 off n c es2 eb2)) = some ⟨iv (cR (nx2 l n x y) n (cntU n M) M : Nat), L4 off n c cs own x y es eb (R4 off n c es' eb2), [13, 14, 15, 0, 16, 2, 1, 17, 12, 18, 19], wr⟩ := by
  obtain ⟨es', ws, i1, i2, i3⟩ := get_okb off n c x y (own := own) hxn hc hn eb2 (cntU n M) es2 M hi hM rfl
  rcases i2 with ⟨rfl, rfl⟩ | rfl
  · exact ⟨es', [], .inl ⟨rfl, rfl⟩, callH_lit (by intro _; first | trivial | rfl) rfl (rch13 ..) rfl (pick13 ..) i3 (by simp [mergeB, renV_int, dep, optAll]) (by simp)⟩
  · exact ⟨es', [14], .inr rfl, callH_lit (by intro _; first | trivial | rfl) rfl (rch13 ..) rfl (pick13 ..) i3 (by simp [mergeB, renV_int, dep, optAll, fm_ren]) (by simp)⟩
theorem ask5 (x y : Nat) (hc : SpC cs off n l) (hn : n ≤ 12) (es eb : List (Nat × Nat)) (rest : List Blk) (M : Nat) (hi : InvR (nxB l n) n es) (hM : M < 2 ^ n) : ∃ es' wr, ((wr = [] ∧ es' = es) ∨ wr = [6]) ∧
    callH LL 60 [pp 5, wv M] (L4 off n c cs own x y es eb rest) = some ⟨iv (gR (nxB l n) n M : Nat), L4 off n c cs own x y es' eb rest, [5, 6, 7, 0, 8, 9, 4, 10, 11], wr⟩ := by
  obtain ⟨es', ws, i1, i2, i3⟩ := get_ok off n c (own := own) hc hn eb (cntU n M) es M hi hM rfl
  rcases i2 with ⟨rfl, rfl⟩ | rfl
  · exact ⟨es', [], .inl ⟨rfl, rfl⟩, callH_lit (by intro _; first | trivial | rfl) rfl (rch5 ..) rfl (pick5 ..) i3 (by simp [mergeB, renV_int, dep, optAll, gR]) (by simp)⟩
  · exact ⟨es', [6], .inr rfl, callH_lit (by intro _; first | trivial | rfl) rfl (rch5 ..) rfl (pick5 ..) i3 (by simp [mergeB, renV_int, dep, optAll, fm_ren, gR]) (by simp)⟩
end
theorem nx2_ok {off n c x y : Nat} {cs : List Value} {own : Bool} {l : Nat → Int × Int} (hc : SpC cs off n l) (hn : n ≤ 12) (hx : x < n) : NxOK (nx2 l n x y) n x y (sl 0 off n c) (.cells cs 2 true own) :=
  ⟨fun M i h => nx2_bit h, fun M i bx hM hi => k63b 0 off n c (h := .cells cs 2 true own :: bx) rfl hc (by omega) M i x y hM hi hx⟩
section
variable (b off n c : Nat) {cs : List Value} {own : Bool} {l : Nat → Int × Int} {h : List Blk} (hb : h[b]? = some (.cells cs 2 true own)) (hc : SpC cs off n l)
include hb hc
theorem k62b (x y : Nat) (hx : x < n) (hn : n ≤ 12) : callH LL 62 [sl b off n c, iv x, iv y] h = some ⟨sl h.length 0 (2 ^ n) (2 ^ n), h ++ [tb (gR (nx2 l n x y) n) (2 ^ n)], [b], []⟩ := by
  have hr := r62 off n c (own := own) x y (nx2_ok hc hn hx) hn
  exact callN_1 rfl hb noIdB_flat (args' := [sl 0 off n c, iv x, iv y]) (by simp [renV, dep, optAll, idx, nbeq]) hr (by intro blk hb; simp only [List.mem_singleton] at hb; subst hb; exact noIdB_flat) (by simp [renV, dep, optAll])
theorem k33 (hn : n ≤ 60) (A B : Int) : callH LL 33 [sl b off n c, iv A, iv B] h = some ⟨.tuple #[beV l n A B, iv (beE l n A B)], h, [b], []⟩ := by
  have hrv : ∀ g, renV g dep (.tuple #[beV l n A B, iv (beE l n A B)]) = some (.tuple #[beV l n A B, iv (beE l n A B)]) := by
    intro g
    unfold beV
    split <;> rfl
  refine callH_1 rfl hb noIdB_flat (args' := [sl 0 off n c, iv A, iv B]) (by simp [renV, dep, optAll, idx, nbeq]) (go (by decide) ?_) hrv
  have a59 := fun b1 b2 b3 => k59B off n c (own := own) hc hn b1 b2 b3
  rw [run33 _ _ _ (by simp)]
  unfold beV
  by_cases h1 : cntE l n = 0
  · simp only [h1, if_true, eq_self] at a59
    obtain ⟨hck, n12, n1⟩ := cntE_ok h1
    have hw0 : IntKind.i64.wrap ((n : Int) - 1) = (n : Int) - 1 := wrap_i64_id (by omega) (by omega)
    cases h2 : (decide (0 ≤ A) && decide (A ≤ (n : Int) - 1))
    · have hE : beE l n A B = 6 := by unfold beE inR; rw [if_pos h1, h2]; rfl
      rw [hE, if_neg (by decide)]
      simp (maxSteps := 1000000) (disch := first | omega | decide | assumption | simp [scal]) [za_42, o_build za_42 pl_42, sz_42, loadA_eq ia_3, lenA_sl lk_22, o_fieldAddr fa_90_1 (by decide), loadA_eq ia_88, loadA_eq ia_42, want_some q33_13g6, a59, k57, h2, hw0, fm_ptr, fm_ren, ptrV_map, renV_map]
    · cases h3 : (decide (0 ≤ B) && decide (B ≤ (n : Int) - 1))
      · have hE : beE l n A B = 6 := by unfold beE inR; rw [if_pos h1, h2, h3]; rfl
        rw [hE, if_neg (by decide)]
        simp (maxSteps := 1000000) (disch := first | omega | decide | assumption | simp [scal]) [za_42, o_build za_42 pl_42, sz_42, loadA_eq ia_3, lenA_sl lk_22, o_fieldAddr fa_90_1 (by decide), loadA_eq ia_88, loadA_eq ia_42, want_some q33_13g6, a59, k57, h2, h3, hw0, fm_ptr, fm_ren, ptrV_map, renV_map]
      · by_cases h4 : A = B
        · have hE : beE l n A B = 7 := by unfold beE inR; rw [if_pos h1, h2, h3, if_pos (by rfl), if_pos h4]
          rw [hE, if_neg (by decide)]
          have h4' := eq_true h4
          simp (maxSteps := 1000000) (disch := first | omega | decide | assumption | simp [scal]) [za_42, o_build za_42 pl_42, sz_42, loadA_eq ia_3, lenA_sl lk_22, o_fieldAddr fa_90_1 (by decide), loadA_eq ia_88, loadA_eq ia_42, want_some q33_13g6, a59, k57, h2, h3, h4', hw0, fm_ptr, fm_ren, ptrV_map, renV_map]
        · have hE : beE l n A B = 0 := by unfold beE inR; rw [if_pos h1, h2, h3, if_pos (by rfl), if_neg h4]
          rw [hE, if_pos rfl]
          simp only [Bool.and_eq_true, decide_eq_true_eq] at h2 h3
          have h2a := h2.2
          have h3a := h3.2
          obtain ⟨x, rfl⟩ : ∃ x : Nat, A = (x : Int) := ⟨A.toNat, by omega⟩
          obtain ⟨y, rfl⟩ : ∃ y : Nat, B = (y : Int) := ⟨B.toNat, by omega⟩
          have hx : x < n := by omega
          have h4n : ¬ x = y := by omega
          have k69 := k69B off n c (cs := cs) (own := own) x y (by omega) [(2 ^ n - 1, 1)] [(0, 1)]
          obtain ⟨es1, wr1, g1, g2⟩ := ask13 off n c (own := own) x y hx hc n12 [(2 ^ n - 1, 1)] [(0, 1)] [(2 ^ n - 1, 1)] [(0, 1)] 0 inv0 (Nat.two_pow_pos n)
          obtain ⟨es2, wr2, g3, g4⟩ := ask5 off n c (own := own) x y hc n12 [(2 ^ n - 1, 1)] [(0, 1)] (R4 off n c es1 [(0, 1)]) 0 inv0 (Nat.two_pow_pos n)
          rw [cntU_zero] at g2
          have hgp := gR_pos (chk_le hck) n 0 cntU_zero
          have hgl : gR (nxB l n) n 0 ≤ 8916100448256 := gR_le n12
          have hu : cR (nx2 l n x y) n n 0 ≤ 8916100448256 := Nat.le_trans (cR_le _ _) (pow_le12 n12 n12)
          rw [Int.toNat_natCast, Int.toNat_natCast]
          generalize cR (nx2 l n x y) n n 0 = u at *
          generalize gR (nxB l n) n 0 = v at *
          have a67 := k67 u v (by omega) (by omega) hgp
          unfold redV at *
          simp only [Int.natCast_zero, L4, R4, NW] at k69 g2 g4 a59 ⊢
          rw [show wv 0 = .int .u32 0 from rfl] at g2 g4
          clear hE
          generalize u / Nat.gcd u v = q1 at *
          generalize v / Nat.gcd u v = q2 at *
          rcases g1 with ⟨rfl, rfl⟩ | rfl <;> rcases g3 with ⟨rfl, rfl⟩ | rfl
          · simp (maxSteps := 1000000) (disch := first | omega | decide | assumption | simp [scal]) [za_42, o_build za_42 pl_42, sz_42, loadA_eq ia_3, lenA_sl lk_22, o_fieldAddr fa_90_1 (by decide), loadA_eq ia_88, loadA_eq ia_42, want_some q33_13g6, a59, k57, h2a, h3a, h4, h4n, hw0, k69, g2, g4, a67, fm_ptr, fm_ren, ptrV_map, renV_map]
          · simp (maxSteps := 1000000) (disch := first | omega | decide | assumption | simp [scal]) [za_42, o_build za_42 pl_42, sz_42, loadA_eq ia_3, lenA_sl lk_22, o_fieldAddr fa_90_1 (by decide), loadA_eq ia_88, loadA_eq ia_42, want_some q33_13g6, a59, k57, h2a, h3a, h4, h4n, hw0, k69, g2, g4, a67, fm_ptr, fm_ren, ptrV_map, renV_map]
          · simp (maxSteps := 1000000) (disch := first | omega | decide | assumption | simp [scal]) [za_42, o_build za_42 pl_42, sz_42, loadA_eq ia_3, lenA_sl lk_22, o_fieldAddr fa_90_1 (by decide), loadA_eq ia_88, loadA_eq ia_42, want_some q33_13g6, a59, k57, h2a, h3a, h4, h4n, hw0, k69, g2, g4, a67, fm_ptr, fm_ren, ptrV_map, renV_map]
          · simp (maxSteps := 1000000) (disch := first | omega | decide | assumption | simp [scal]) [za_42, o_build za_42 pl_42, sz_42, loadA_eq ia_3, lenA_sl lk_22, o_fieldAddr fa_90_1 (by decide), loadA_eq ia_88, loadA_eq ia_42, want_some q33_13g6, a59, k57, h2a, h3a, h4, h4n, hw0, k69, g2, g4, a67, fm_ptr, fm_ren, ptrV_map, renV_map]
  · simp only [h1, if_false] at a59
    have hE : beE l n A B = cntE l n := by unfold beE; rw [if_neg h1]
    rw [hE, if_neg h1]
    simp (maxSteps := 1000000) (disch := first | omega | decide | assumption | simp [scal]) [za_42, o_build za_42 pl_42, sz_42, loadA_eq ia_3, lenA_sl lk_22, o_fieldAddr fa_90_1 (by decide), loadA_eq ia_88, loadA_eq ia_42, want_some q33_13g6, a59, h1]
end
end Go.Proofs.Ytfccmddkblbeoaa.rk
namespace Go.Proofs.Ytfccmddkblbeoaa.rk
open Go.GE
set_option linter.unusedVariables false
set_option linter.unusedSimpArgs false
set_option linter.unusedSectionVars false
set_option maxRecDepth 100000
set_option maxHeartbeats 4000000
attribute [local simp] runOps_nil runOps_cons runOpsF_nil runOpsF_cons fstS_some fstF_some opStep_eq want_none oStep_true oStep_false fin_pure fin_read fin_alloc fin_write storeB wrN cellV addWr o_move o_assign o_pick o_alloc o_box o_load o_store o_nilCheck o_bin o_un o_extract o_callV o_callB o_callI callV_f callV_y callV_fc o_makeFunc partsA Instr.fill builtin_len builtin_max2 bin_add bin_sub bin_mul bin_quo bin_rem bin_lss bin_leq bin_gtr bin_geq bin_eql bin_neq un_neg un_not bin_shr bin_shl wrap_u64_id opd opds optAll putO nbeq nblt constOk isC ops sub cl cr co bodyOf thenS_normal thenS_ret thenS_exit thenS_goto afterN_normal afterN_ret afterN_exit afterN_goto condS_true condS_false blockS_normal blockS_ret blockS_exit blockS_goto headS normS normK_eq fixS_nil fixS_cons fix1 fixV emptyB keepO_nil keepO_cons roundC_normal roundC_exit roundC_ret roundC_goto sweep_eq sweepD rnm pickR pickW rootsB ptrT renT ptrFn renFn ptrB_flat ptrB_non renB_flat renB_non plainS_some drawS_some fpsOk disj unord range' dropTo enumT undef wrap_i64_id Value.cells mkCells ptrTo scal cellsAt rdN endS_ret resultsA Option.bind_some tupV finish reachN dep ptrL_eq ptrL renL_eq renL ptrV_bool ptrV_int ptrV_string ptrV_nilFunc ptrV_nilIface ptrV_nilPtr ptrV_ptr ptrV_nilSl ptrV_sl ptrV_iface ptrV_agg ptrV_tuple ptrV_func renV_bool renV_int renV_string renV_nilFunc renV_nilIface renV_nilPtr renV_ptr renV_nilSl renV_sl renV_iface renV_agg renV_tuple renV_func gotoS_goto gotoS_normal gotoS_exit gotoS_ret skip_seq sliceE bnd bndHi intOf optOpd keepT_nil keepT_cons keepC_t keepC_f lk_nil lk_cons lkC_t lkC_f has_nil has_cons hasC_t hasC_f rep_nil rep_cons repC_t repC_f put_eq putC_t putC_f mem_nil mem_cons memC_t memC_f idx_nil idx_cons idxC_t idxC_f reach_nil reachP_cons reachQ_t reachQ_f ptrB_dead renB_dead ins_eq
attribute [local simp] n34_1s n34_3s n34_6s n34_8s n34_9s n34_7s n34_5s n34_12s n34_14s n34_15s n34_13s n34_11s n34_18s n34_21s n34_22s n34_20s n34_23s n34_19s n34_17s n34_25s n34_26s n34_24s n34_16s n34_10s n34_4s n34_2s n34_0s Try.f34 n5_1s n5_4s n5_7s n5_8s n5_6s n5_9s n5_5s n5_3s n5_11s n5_13s n5_15s n5_17s n5_19s n5_21s n5_23s n5_24s n5_22s n5_20s n5_18s n5_16s n5_14s n5_12s n5_10s n5_2s n5_0s Try.f5
section
variable (b off n c : Nat) {cs : List Value} {own : Bool} {l : Nat → Int × Int} {h : List Blk} (hb : h[b]? = some (.cells cs 2 true own)) (hc : SpC cs off n l)
include hb hc
theorem k34 (hn : n ≤ 60) (A B : Int) : callH LL 34 [sl b off n c, iv A, iv B] h = some ⟨.tuple #[beV l n A B, iv (beE l n A B)], h, [b], []⟩ := by
  have hrv : ∀ g, renV g dep (.tuple #[beV l n A B, iv (beE l n A B)]) = some (.tuple #[beV l n A B, iv (beE l n A B)]) := by
    intro g
    unfold beV
    split <;> rfl
  refine callH_1 rfl hb noIdB_flat (args' := [sl 0 off n c, iv A, iv B]) (by simp [renV, dep, optAll, idx, nbeq]) (go (by decide) ?_) hrv
  have a61 := fun bx => k61 0 off n c (h := .cells cs 2 true own :: bx) rfl hc hn
  rw [run34 _ _ _ (by simp)]
  unfold beV
  by_cases h1 : cntE l n = 0
  · simp only [h1] at a61
    obtain ⟨hck, n12, n1⟩ := cntE_ok h1
    have hw0 : IntKind.i64.wrap ((n : Int) - 1) = (n : Int) - 1 := wrap_i64_id (by omega) (by omega)
    cases h2 : (decide (0 ≤ A) && decide (A ≤ (n : Int) - 1))
    · have hE : beE l n A B = 6 := by unfold beE inR; rw [if_pos h1, h2]; rfl
      rw [hE, if_neg (by decide)]
      simp (maxSteps := 1000000) (disch := first | omega | decide | assumption | simp [scal]) [za_42, lenA_sl lk_22, o_build za_42 pl_42, sz_42, o_indexAddrS es_24, loadA_eq ia_3, loadA_eq ia_42, want_some q34_6g2, want_some q34_6g9, want_some q34_12g2, a61, k58, h2, hw0]
    · cases h3 : (decide (0 ≤ B) && decide (B ≤ (n : Int) - 1))
      · have hE : beE l n A B = 6 := by unfold beE inR; rw [if_pos h1, h2, h3]; rfl
        rw [hE, if_neg (by decide)]
        simp (maxSteps := 1000000) (disch := first | omega | decide | assumption | simp [scal]) [za_42, lenA_sl lk_22, o_build za_42 pl_42, sz_42, o_indexAddrS es_24, loadA_eq ia_3, loadA_eq ia_42, want_some q34_6g2, want_some q34_6g9, want_some q34_12g2, a61, k58, h2, h3, hw0]
      · by_cases h4 : A = B
        · have hE : beE l n A B = 7 := by unfold beE inR; rw [if_pos h1, h2, h3, if_pos (by rfl), if_pos h4]
          rw [hE, if_neg (by decide)]
          have h4' := eq_true h4
          simp (maxSteps := 1000000) (disch := first | omega | decide | assumption | simp [scal]) [za_42, lenA_sl lk_22, o_build za_42 pl_42, sz_42, o_indexAddrS es_24, loadA_eq ia_3, loadA_eq ia_42, want_some q34_6g2, want_some q34_6g9, want_some q34_12g2, a61, k58, h2, h3, h4', hw0]
        · have hE : beE l n A B = 0 := by unfold beE inR; rw [if_pos h1, h2, h3, if_pos (by rfl), if_neg h4]
          rw [hE, if_pos rfl]
          simp only [Bool.and_eq_true, decide_eq_true_eq] at h2 h3
          have h2a := h2.2
          have h3a := h3.2
          obtain ⟨x, rfl⟩ : ∃ x : Nat, A = (x : Int) := ⟨A.toNat, by omega⟩
          obtain ⟨y, rfl⟩ : ∃ y : Nat, B = (y : Int) := ⟨B.toNat, by omega⟩
          have hx : x < n := by omega
          have h4n : ¬ x = y := by omega
          have a62 := fun b1 => k62b 0 off n c (h := [.cells cs 2 true own, b1]) rfl hc x y hx n12
          have a62n := fun b1 b2 => k62 0 off n c (h := [.cells cs 2 true own, b1, b2]) rfl hc n12
          have hgp := gR_pos (chk_le hck) n 0 cntU_zero
          have hgl : gR (nxB l n) n 0 ≤ 8916100448256 := gR_le n12
          have hu : gR (nx2 l n x y) n 0 ≤ 8916100448256 := gR_le n12
          have hN : 1 ≤ 2 ^ n := Nat.two_pow_pos n
          have p1 := tL_get (g := gR (nxB l n) n) hN
          have ul := tL_len (g := gR (nxB l n) n) (N := 2 ^ n)
          have p2 := tL_get (g := gR (nx2 l n x y) n) hN
          have vl := tL_len (g := gR (nx2 l n x y) n) (N := 2 ^ n)
          rw [Int.toNat_natCast, Int.toNat_natCast, ← gR_zero]
          generalize gR (nx2 l n x y) n 0 = u at *
          generalize gR (nxB l n) n 0 = v at *
          have a68 := k68 u v (by omega) (by omega) hgp
          unfold redV at *
          simp only [Int.natCast_zero, tb] at a62 a62n ⊢
          clear hE
          generalize u / Nat.gcd u v = q1 at *
          generalize v / Nat.gcd u v = q2 at *
          generalize tL (gR (nxB l n) n) (2 ^ n) = U at *
          generalize tL (gR (nx2 l n x y) n) (2 ^ n) = V at *
          generalize 2 ^ n = N at *
          have l1 : 0 < U.length := by omega
          have l2 : (0 : Int) < N := by omega
          have l3 : 0 < N := by omega
          have l4 : 0 < V.length := by omega
          obtain ⟨_, p1⟩ := List.getElem?_eq_some_iff.1 p1
          obtain ⟨_, p2⟩ := List.getElem?_eq_some_iff.1 p2
          simp (maxSteps := 1000000) (disch := first | omega | decide | assumption | simp [scal]) [za_42, lenA_sl lk_22, o_build za_42 pl_42, sz_42, o_indexAddrS es_24, loadA_eq ia_3, loadA_eq ia_42, want_some q34_6g2, want_some q34_6g9, want_some q34_12g2, a61, k58, h2a, h3a, h4, h4n, hw0, a62, a62n, l1, l2, l3, l4, ul, vl, p1, p2, a68]
  · have hE : beE l n A B = cntE l n := by unfold beE; rw [if_neg h1]
    rw [hE, if_neg h1]
    simp (maxSteps := 1000000) (disch := first | omega | decide | assumption | simp [scal]) [za_42, lenA_sl lk_22, o_build za_42 pl_42, sz_42, o_indexAddrS es_24, loadA_eq ia_3, loadA_eq ia_42, want_some q34_6g2, want_some q34_6g9, want_some q34_12g2, a61, h1]
end
theorem g42 : Try.prog.eqGuardType Try.prog.depth 42 = false := by kernel_rfl
theorem s42 : Try.prog.stoodInHeld 42 = false := by kernel_rfl
theorem eql42 {cst : Bool} (a b : Int) : binA Try.prog .eql 42 cst (.agg #[iv a, iv b]) (.agg #[iv a, iv b]) = some (.bool true) := by
  have e3 : Try.prog.underlying 3 = some (.int .i64) := by kernel_rfl
  simp [binA, g42, eqA, Try.underlying42, s42, eqFs, part3, e3]
theorem chV_agg (l : Nat → Int × Int) (n : Nat) (D R : Int) : ∃ a b, chV l n D R = .agg #[iv a, iv b] := by
  unfold chV
  split
  · exact ⟨_, _, rfl⟩
  · exact ⟨_, _, rfl⟩
theorem beV_agg (l : Nat → Int × Int) (n : Nat) (D R : Int) : ∃ a b, beV l n D R = .agg #[iv a, iv b] := by
  unfold beV
  split
  · exact ⟨_, _, rfl⟩
  · exact ⟨_, _, rfl⟩
section
variable (off n c : Nat) {cs : List Value} {own : Bool} {l : Nat → Int × Int}
theorem c5 (K A B : Int) (hc : SpC cs off n l) : LL.run 5 [sl 0 off n c, iv K, iv A, iv B] [.cells cs 2 true own] = some ⟨.bool true, [], []⟩ := by
  refine go (by decide) ?_
  rw [run5 _ _ _ (by simp)]
  by_cases h1 : 60 < n
  · have h1' : (60 : Int) < n := by omega
    have h2' : (9 : Int) < n := by omega
    have h3' : ¬ (n : Int) ≤ 12 := by omega
    simp (maxSteps := 1000000) (disch := first | omega | decide | assumption | simp [scal]) [lenA_sl lk_22, za_42, sz_42, loadA_eq ia_42, want_some q5_4g3, want_some q5_4g8, want_some q5_23g3, want_some q5_23g8, want_some q5_23g13, want_some q5_23g18, want_some q5_23g23, want_some q5_23g28, k14, h1, h1', h2', h3']
  have h1' : ¬ (60 : Int) < n := by omega
  have hn : n ≤ 60 := by omega
  by_cases h3 : 9 < n ∧ n ≤ 12
  · have h3' : (9 : Int) < n := by omega
    have h4' : (n : Int) ≤ 12 := by omega
    simp (maxSteps := 1000000) (disch := first | omega | decide | assumption | simp [scal]) [lenA_sl lk_22, za_42, sz_42, loadA_eq ia_42, want_some q5_4g3, want_some q5_4g8, want_some q5_23g3, want_some q5_23g8, want_some q5_23g13, want_some q5_23g18, want_some q5_23g23, want_some q5_23g28, k14, h1, h1', h3, h3', h4']
  have hn9 : cntE l n = 0 → n ≤ 9 := fun h => by have := (cntE_ok h).2.1; omega
  have a29 := fun bx => k29 0 off n c (h := .cells cs 2 true own :: bx) rfl hc hn hn9 K
  have a30 := fun bx => k30 0 off n c (h := .cells cs 2 true own :: bx) rfl hc hn hn9 K
  have a31 := fun bx => k31 0 off n c (h := .cells cs 2 true own :: bx) rfl hc hn hn9 A K
  have a32 := fun bx => k32 0 off n c (h := .cells cs 2 true own :: bx) rfl hc hn hn9 A K
  have a33 := fun bx => k33 0 off n c (h := .cells cs 2 true own :: bx) rfl hc hn A B
  have a34 := fun bx => k34 0 off n c (h := .cells cs 2 true own :: bx) rfl hc hn A B
  obtain ⟨x1, x2, hx⟩ := chV_agg l n A K
  obtain ⟨y1, y2, hy⟩ := beV_agg l n A B
  simp only [hx] at a31 a32
  simp only [hy] at a33 a34
  clear hc hx hy
  generalize chE l n A K = e1 at *
  generalize beE l n A B = e2 at *
  generalize grE l n K = e3 at *
  generalize grV l n K = e4 at *
  by_cases h5 : 9 < n
  · have h5' : (9 : Int) < n := by omega
    have h6' : ¬ (n : Int) ≤ 12 := by omega
    have h6 : ¬ n ≤ 12 := by omega
    simp (maxSteps := 1000000) (disch := first | omega | decide | assumption | simp [scal]) [lenA_sl lk_22, za_42, sz_42, loadA_eq ia_42, want_some q5_4g3, want_some q5_4g8, want_some q5_23g3, want_some q5_23g8, want_some q5_23g13, want_some q5_23g18, want_some q5_23g23, want_some q5_23g28, k14, h1, h1', h5, h5', h6, h6', a29, a30, a31, a32, a33, a34, eql42]
  · have h5' : ¬ (9 : Int) < n := by omega
    simp (maxSteps := 1000000) (disch := first | omega | decide | assumption | simp [scal]) [lenA_sl lk_22, za_42, sz_42, loadA_eq ia_42, want_some q5_4g3, want_some q5_4g8, want_some q5_23g3, want_some q5_23g8, want_some q5_23g13, want_some q5_23g18, want_some q5_23g23, want_some q5_23g28, k14, h1, h1', h5, h5', a29, a30, a31, a32, a33, a34, eql42]
end
end Go.Proofs.Ytfccmddkblbeoaa.rk
