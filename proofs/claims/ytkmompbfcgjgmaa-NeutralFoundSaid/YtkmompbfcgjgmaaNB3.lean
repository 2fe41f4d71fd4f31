/-
  Contracts of functions of the program at the limit evaluator, continued. No condition.
-/
import Derived.Test.YtkmompbfcgjgmaaNB2
import Derived.Test.YtkmompbfcgjgmaaE40
namespace Go.Proofs.Ytkmompbfcgjgmaa.nt
open Go.GE
set_option linter.unusedVariables false
set_option linter.unusedSimpArgs false
set_option linter.unusedSectionVars false
set_option maxRecDepth 100000
set_option maxHeartbeats 4000000
attribute [local simp] runOps_nil runOps_cons runOpsF_nil runOpsF_cons fstS_some fstF_some opStep_eq want_none oStep_true oStep_false fin_pure fin_read fin_alloc fin_write storeB wrN cellV addWr o_move o_assign o_pick o_alloc o_box o_load o_store o_nilCheck o_bin o_un o_extract o_callV o_callB o_callI callV_f callV_y callV_fc o_makeFunc partsA Instr.fill builtin_len builtin_max2 bin_add bin_sub bin_mul bin_quo bin_rem bin_lss bin_leq bin_gtr bin_geq bin_eql bin_neq un_neg un_not bin_shr bin_shl wrap_u64_id opd opds optAll putO nbeq nblt constOk isC ops sub cl cr co bodyOf thenS_normal thenS_ret thenS_exit thenS_goto afterN_normal afterN_ret afterN_exit afterN_goto condS_true condS_false blockS_normal blockS_ret blockS_exit blockS_goto headS normS normK_eq fixS_nil fixS_cons fix1 fixV emptyB keepO_nil keepO_cons roundC_normal roundC_exit roundC_ret roundC_goto sweep_eq sweepD rnm pickR pickW rootsB ptrT renT ptrFn renFn ptrB_flat ptrB_non renB_flat renB_non plainS_some drawS_some fpsOk disj unord range' dropTo enumT undef wrap_i64_id Value.cells mkCells ptrTo scal cellsAt rdN endS_ret resultsA Option.bind_some tupV finish reachN dep ptrL_eq ptrL renL_eq renL ptrV_bool ptrV_int ptrV_string ptrV_nilFunc ptrV_nilIface ptrV_nilPtr ptrV_ptr ptrV_nilSl ptrV_sl ptrV_iface ptrV_agg ptrV_tuple ptrV_func renV_bool renV_int renV_string renV_nilFunc renV_nilIface renV_nilPtr renV_ptr renV_nilSl renV_sl renV_iface renV_agg renV_tuple renV_func gotoS_goto gotoS_normal gotoS_exit gotoS_ret skip_seq sliceE bnd bndHi intOf optOpd keepT_nil keepT_cons keepC_t keepC_f lk_nil lk_cons lkC_t lkC_f has_nil has_cons hasC_t hasC_f rep_nil rep_cons repC_t repC_f put_eq putC_t putC_f mem_nil mem_cons memC_t memC_f idx_nil idx_cons idxC_t idxC_f reach_nil reachP_cons reachQ_t reachQ_f ptrB_dead renB_dead ins_eq
attribute [local simp] n56_1s n56_3s n56_4s n56_2s n56_0s Try.f56 n58_1s n58_3s n58_4s n58_2s n58_0s Try.f58 n57_1s n57_3s n57_9s n57_11s n57_12s n57_10s n57_8s n57_15s n57_17s n57_19s n57_20s n57_18s n57_16s n57_14s n57_13s n57_7s n57_6s n57_6g n57_5s n57_22s n57_23s n57_21s n57_4s n57_2s n57_0s Try.f57
/-- the first place at which a test holds, by halving -/
def srch (f : Nat → Bool) : Nat → Nat → Nat → Nat
  | 0, i, _ => i
  | k + 1, i, j => bif Nat.blt i j then (bif f ((i + j) / 2) then srch f k i ((i + j) / 2) else srch f k ((i + j) / 2 + 1) j) else i
theorem srch_le {f : Nat → Bool} : ∀ (k i j : Nat), i ≤ j → srch f k i j ≤ j := by
  intro k
  induction k with
  | zero => intro i j h; exact h
  | succ k ih =>
    intro i j h
    unfold srch
    cases hb : Nat.blt i j
    · exact h
    · rw [cond_true]
      rw [nblt, decide_eq_true_eq] at hb
      cases f ((i + j) / 2)
      · exact ih _ _ (by omega)
      · rw [cond_true]; have := ih i ((i + j) / 2) (by omega); omega
theorem shr1 {a : Nat} : ((a : Int).fdiv (2 ^ min 1 IntKind.u64.bits)) = ((a / 2 : Nat) : Int) := by
  rw [show min 1 IntKind.u64.bits = 1 from rfl, Int.fdiv_eq_ediv_of_nonneg _ (by decide)]
  omega
section
variable (c d1 d2 : Nat) {cs1 cs2 : List Value} {own1 own2 : Bool} {p1 p2 : List Int} (hp1 : PoC cs1 p1) (h01 : 0 < p1.length) (h61 : p1.length ≤ 60) (hp2 : PoC cs2 p2) (h02 : 0 < p2.length) (h62 : p2.length ≤ 60)
include hp1 h01 h61 hp2 h02 h62
theorem h52D_2 (Z0 Z1 : Blk) (x y u v : Int) (hb1 : evB x y p1.reverse 0 1 = true) (hb2 : evB x y p2.reverse 0 1 = true) (hb1b : evB u v p1.reverse 0 1 = true) (hb2b : evB u v p2.reverse 0 1 = true) : callH LL 52 [sl 1 0 2 c, .agg #[iv x, iv y], .agg #[iv u, iv v]] [Z0, .cells [sl 2 0 p1.length d1, sl 3 0 p2.length d2] 1 false true, .cells cs1 1 true own1, .cells cs2 1 true own2, Z1] =
    some ⟨iv ((chN [sgP p1 x y, sgP p2 x y] 0 0 : Nat) - (chN [sgP p1 u v, sgP p2 u v] 0 0 : Nat) : Int), [Z0, .cells [sl 2 0 p1.length d1, sl 3 0 p2.length d2] 1 false true, .cells cs1 1 true own1, .cells cs2 1 true own2, Z1], [1, 2, 3], []⟩ := by
  have e := r52_2 c d1 d2 (own1 := own1) (own2 := own2) hp1 h01 h61 hp2 h02 h62 x y u v hb1 hb2 hb1b hb2b
  generalize chN [sgP p1 x y, sgP p2 x y] 0 0 = N1 at *
  generalize chN [sgP p1 u v, sgP p2 u v] 0 0 = N2 at *
  have hm : ∀ q : Nat, 30 < q → reach [Z0, .cells [sl 2 0 p1.length d1, sl 3 0 p2.length d2] 1 false true, .cells cs1 1 true own1, .cells cs2 1 true own2, Z1] 0 q [1] [] = [1, 2, 3] := by
    intro q hq
    obtain ⟨q, rfl⟩ : ∃ j, q = j + 30 := ⟨q - 30, by omega⟩
    simp [reach_cons, reachC_t, reachC_f, reach_nil, rootsB, GE.mem, nblt, nbeq, ptrB, ptrT, ptrV_ptr, ptrV_sl, ptrV_int, ptrV_func, ptrFn, ptrL, dep]
  have hpp : ([sl 1 0 2 c, .agg #[iv x, iv y], .agg #[iv u, iv v]] : List Value).flatMap (ptrV dep) = [1] := rfl
  refine callH_of (by intro _; first | trivial | rfl) ?_ (by simp)
  unfold callH0
  simp only [hpp, hm reachN (by decide)]
  simp [optAll, renV_func, renFn, renL, renV_ptr, renV_agg, dep, idx, nbeq, renB, renT, renL_eq, renV_int, renV_sl, e, mergeB, renV_tuple, nblt]
theorem r56_2 (n : Nat) (hn : n ≤ 10400) (hb1 : evB (-52) 1 p1.reverse 0 1 = true) (hb2 : evB (-52) 1 p2.reverse 0 1 = true) (hb1b : evB ((n : Int) - 5200) 100 p1.reverse 0 1 = true) (hb2b : evB ((n : Int) - 5200) 100 p2.reverse 0 1 = true) : LL.run 56 [iv n, pp 0, pp 4] [bxP 1 2 c, .cells [sl 2 0 p1.length d1, sl 3 0 p2.length d2] 1 false true, .cells cs1 1 true own1, .cells cs2 1 true own2, bxR (-52) 1] = some ⟨iv ((chN [sgP p1 (-52) 1, sgP p2 (-52) 1] 0 0 : Nat) - (chN [sgP p1 ((n : Int) - 5200) 100, sgP p2 ((n : Int) - 5200) 100] 0 0 : Nat) : Int), [], []⟩ := by
  have a := fun Z0 Z1 => h52D_2 c d1 d2 (own1 := own1) (own2 := own2) hp1 h01 h61 hp2 h02 h62 Z0 Z1 (-52) 1 ((n : Int) - 5200) 100 hb1 hb2 hb1b hb2b
  generalize chN [sgP p1 (-52) 1, sgP p2 (-52) 1] 0 0 = N1 at *
  generalize chN [sgP p1 ((n : Int) - 5200) 100, sgP p2 ((n : Int) - 5200) 100] 0 0 = N2 at *
  clear hp1 h01 h61 hp2 h02 h62 hb1 hb1b hb2 hb2b
  refine go (by decide) ?_
  rw [run56 _ _ _ (by simp)]
  simp (maxSteps := 1000000) (disch := first | omega | decide | assumption | simp [scal]) [loadA_eq ia_76, loadA_eq ia_24, za_24, o_build za_24 pl_24, a]
theorem h56_2 (n : Nat) (hn : n ≤ 10400) (hb1 : evB (-52) 1 p1.reverse 0 1 = true) (hb2 : evB (-52) 1 p2.reverse 0 1 = true) (hb1b : evB ((n : Int) - 5200) 100 p1.reverse 0 1 = true) (hb2b : evB ((n : Int) - 5200) 100 p2.reverse 0 1 = true) (Z : Blk) (rest : List Blk) : callH LL 56 [iv n, pp 1, pp 5] (Z :: bxP 2 2 c :: .cells [sl 3 0 p1.length d1, sl 4 0 p2.length d2] 1 false true :: .cells cs1 1 true own1 :: .cells cs2 1 true own2 :: bxR (-52) 1 :: rest) =
    some ⟨iv ((chN [sgP p1 (-52) 1, sgP p2 (-52) 1] 0 0 : Nat) - (chN [sgP p1 ((n : Int) - 5200) 100, sgP p2 ((n : Int) - 5200) 100] 0 0 : Nat) : Int), Z :: bxP 2 2 c :: .cells [sl 3 0 p1.length d1, sl 4 0 p2.length d2] 1 false true :: .cells cs1 1 true own1 :: .cells cs2 1 true own2 :: bxR (-52) 1 :: rest, [1, 2, 3, 4, 5], []⟩ := by
  have e := r56_2 c d1 d2 (own1 := own1) (own2 := own2) hp1 h01 h61 hp2 h02 h62 n hn hb1 hb2 hb1b hb2b
  generalize chN [sgP p1 (-52) 1, sgP p2 (-52) 1] 0 0 = N1 at *
  generalize chN [sgP p1 ((n : Int) - 5200) 100, sgP p2 ((n : Int) - 5200) 100] 0 0 = N2 at *
  have hm : ∀ q : Nat, 30 < q → reach (Z :: bxP 2 2 c :: .cells [sl 3 0 p1.length d1, sl 4 0 p2.length d2] 1 false true :: .cells cs1 1 true own1 :: .cells cs2 1 true own2 :: bxR (-52) 1 :: rest) 0 q [1, 5] [] = [1, 2, 3, 4, 5] := by
    intro q hq
    obtain ⟨q, rfl⟩ : ∃ j, q = j + 30 := ⟨q - 30, by omega⟩
    simp [reach_cons, reachC_t, reachC_f, reach_nil, rootsB, GE.mem, nblt, nbeq, ptrB, ptrT, ptrV_ptr, ptrV_sl, ptrV_int, ptrV_func, ptrFn, ptrL, dep]
  have hpp : ([iv n, pp 1, pp 5] : List Value).flatMap (ptrV dep) = [1, 5] := rfl
  refine callH_of (by intro _; first | trivial | rfl) ?_ (by simp)
  unfold callH0
  simp only [hpp, hm reachN (by decide)]
  simp [optAll, renV_func, renFn, renL, renV_ptr, renV_agg, dep, idx, nbeq, renB, renT, renL_eq, renV_int, renV_sl, e, mergeB, renV_tuple, nblt]
theorem r58_2 (n : Nat) (hn : n ≤ 10400) (t : Int) (hb1 : evB (-52) 1 p1.reverse 0 1 = true) (hb2 : evB (-52) 1 p2.reverse 0 1 = true) (hb1b : evB ((n : Int) - 5200) 100 p1.reverse 0 1 = true) (hb2b : evB ((n : Int) - 5200) 100 p2.reverse 0 1 = true) : LL.run 58 [iv n, pp 0, pp 6] [.cells [.func (.func 56) #[] #[pp 1, pp 5]] 1 false true, bxP 2 2 c, .cells [sl 3 0 p1.length d1, sl 4 0 p2.length d2] 1 false true, .cells cs1 1 true own1, .cells cs2 1 true own2, bxR (-52) 1, c1 t] = some ⟨.bool (decide (t < ((chN [sgP p1 (-52) 1, sgP p2 (-52) 1] 0 0 : Nat) - (chN [sgP p1 ((n : Int) - 5200) 100, sgP p2 ((n : Int) - 5200) 100] 0 0 : Nat) : Int))), [], []⟩ := by
  have a := fun Z rest => h56_2 c d1 d2 (own1 := own1) (own2 := own2) hp1 h01 h61 hp2 h02 h62 n hn hb1 hb2 hb1b hb2b Z rest
  generalize chN [sgP p1 (-52) 1, sgP p2 (-52) 1] 0 0 = N1 at *
  generalize chN [sgP p1 ((n : Int) - 5200) 100, sgP p2 ((n : Int) - 5200) 100] 0 0 = N2 at *
  clear hp1 h01 h61 hp2 h02 h62 hb1 hb1b hb2 hb2b
  refine go (by decide) ?_
  rw [run58 _ _ _ (by simp)]
  simp (maxSteps := 1000000) (disch := first | omega | decide | assumption | simp [scal]) [loadA_eq ia_90, loadA_eq ia_3, a]
end
section
variable (z0 z1 z2 z3 z4 z5 z6 : Blk) (f : Nat → Bool) (rd : List Nat) (h58 : ∀ n : Nat, n ≤ 10400 → callH LL 58 [iv n, pp 0, pp 6] [z0, z1, z2, z3, z4, z5, z6] = some ⟨.bool (f n), [z0, z1, z2, z3, z4, z5, z6], rd, []⟩)
include h58
theorem l57_2 : ∀ (q i j : Nat), i ≤ j → j ≤ 10400 → j - i < 2 ^ q → lpB Try.prog LL ⟨57, 26, 7, none⟩ n57_6 n57_7 ⟨[(1, .func (.func 58) #[] #[pp 0, pp 6]), (5, iv i), (6, iv j)], [z0, z1, z2, z3, z4, z5, z6], []⟩ =
    some (.exit 0, ⟨[(5, iv (srch f q i j : Nat))], [z0, z1, z2, z3, z4, z5, z6], []⟩) := by
  intro q
  induction q with
  | zero =>
    intro i j h1 h2 h3
    have e1 : ¬ i < j := by omega
    have e1' : ¬ (i : Int) < j := by omega
    unfold srch
    rw [lpB_eq]
    simp (maxSteps := 1000000) (disch := first | omega | decide | assumption | simp [scal]) [o_convI cv_3_106, o_convI cv_106_3, e1, e1']
  | succ q ih =>
    intro i j h1 h2 h3
    have e2 : 2 ^ (q + 1) = 2 ^ q * 2 := Nat.pow_succ ..
    unfold srch
    by_cases e1 : i < j
    · have e1' : (i : Int) < j := by omega
      have eb : Nat.blt i j = true := by rw [nblt]; simp [e1]
      rw [eb, cond_true]
      have a := h58 ((i + j) / 2) (by omega)
      have s1 := @shr1 (i + j)
      have s2 : IntKind.i64.wrap ((i : Int) + (j : Int)) = ((i + j : Nat) : Int) := by rw [Int.natCast_add]; exact wrap_i64_id (by omega) (by omega)
      have s3 : IntKind.u64.wrap ((i + j : Nat) : Int) = ((i + j : Nat) : Int) := wrap_u64_id (by omega) (by omega)
      have s4 : IntKind.u64.wrap (((i + j) / 2 : Nat) : Int) = (((i + j) / 2 : Nat) : Int) := wrap_u64_id (by omega) (by omega)
      have s5 : IntKind.i64.wrap (((i + j) / 2 : Nat) : Int) = (((i + j) / 2 : Nat) : Int) := wrap_i64_id (by omega) (by omega)
      have i1 := ih i ((i + j) / 2) (by omega) (by omega) (by omega)
      have i2 := ih ((i + j) / 2 + 1) j (by omega) (by omega) (by omega)
      have s6 : IntKind.i64.wrap ((((i + j) / 2 : Nat) : Int) + 1) = (((i + j) / 2 : Nat) : Int) + 1 := wrap_i64_id (by omega) (by omega)
      simp only [cast1] at i2
      have s7 : (i : Int) + (j : Int) = ((i + j : Nat) : Int) := by omega
      have s8 : ∀ tt cc, binA Try.prog .add tt cc (.int .i64 (i : Int)) (.int .i64 (j : Int)) = some (.int .i64 ((i + j : Nat) : Int)) := fun tt cc => by rw [bin_add, s2]
      have s9 : ∀ tt cc, binA Try.prog .shr tt cc (.int .u64 ((i + j : Nat) : Int)) (.int .u64 1) = some (.int .u64 (((i + j) / 2 : Nat) : Int)) := fun tt cc => by rw [bin_shr (by decide)]; exact congrArg (fun z => some (Value.int .u64 z)) s1
      clear ih h58 s1 s2 s7 e2 h3 eb
      generalize (i + j) / 2 = h at *
      generalize i + j = ij at *
      rw [lpB_eq]
      cases hf : f h
      · rw [hf] at a
        rw [cond_false]
        generalize srch f q (h + 1) j = Z at *
        simp (maxSteps := 1000000) (disch := first | omega | decide | assumption | simp [scal]) [o_convI cv_3_106, o_convI cv_106_3, -bin_add, -bin_shr, e1, e1', s3, s4, s5, s6, s8, s9, bin_add, a, i2]
      · rw [hf] at a
        rw [cond_true]
        generalize srch f q i h = Z at *
        simp (maxSteps := 1000000) (disch := first | omega | decide | assumption | simp [scal]) [o_convI cv_3_106, o_convI cv_106_3, -bin_add, -bin_shr, e1, e1', s3, s4, s5, s6, s8, s9, bin_add, a, i1]
    · have e1' : ¬ (i : Int) < j := by omega
      have eb : Nat.blt i j = false := by rw [nblt]; simp [e1]
      rw [eb, cond_false]
      rw [lpB_eq]
      simp (maxSteps := 1000000) (disch := first | omega | decide | assumption | simp [scal]) [o_convI cv_3_106, o_convI cv_106_3, e1, e1']
theorem r57_2 : LL.run 57 [iv 10400, .func (.func 58) #[] #[pp 0, pp 6]] [z0, z1, z2, z3, z4, z5, z6] = some ⟨iv (srch f 15 0 10400 : Nat), [], []⟩ := by
  have l := l57_2 z0 z1 z2 z3 z4 z5 z6 f rd h58 15 0 10400 (by omega) (by omega) (by decide)
  rw [show ((10400 : Nat) : Int) = 10400 from rfl] at l
  simp only [Int.natCast_zero] at l
  generalize srch f 15 0 10400 = Z at *
  refine go (by decide) ?_
  rw [run57 _ _ _ (by simp)]
  simp (maxSteps := 1000000) (disch := first | omega | decide | assumption | simp [scal]) [o_convI cv_3_106, o_convI cv_106_3, l]
end
section
variable (c d1 d2 d3 : Nat) {cs1 cs2 cs3 : List Value} {own1 own2 own3 : Bool} {p1 p2 p3 : List Int} (hp1 : PoC cs1 p1) (h01 : 0 < p1.length) (h61 : p1.length ≤ 60) (hp2 : PoC cs2 p2) (h02 : 0 < p2.length) (h62 : p2.length ≤ 60) (hp3 : PoC cs3 p3) (h03 : 0 < p3.length) (h63 : p3.length ≤ 60)
include hp1 h01 h61 hp2 h02 h62 hp3 h03 h63
theorem h52D_3 (Z0 Z1 : Blk) (x y u v : Int) (hb1 : evB x y p1.reverse 0 1 = true) (hb2 : evB x y p2.reverse 0 1 = true) (hb3 : evB x y p3.reverse 0 1 = true) (hb1b : evB u v p1.reverse 0 1 = true) (hb2b : evB u v p2.reverse 0 1 = true) (hb3b : evB u v p3.reverse 0 1 = true) : callH LL 52 [sl 1 0 3 c, .agg #[iv x, iv y], .agg #[iv u, iv v]] [Z0, .cells [sl 2 0 p1.length d1, sl 3 0 p2.length d2, sl 4 0 p3.length d3] 1 false true, .cells cs1 1 true own1, .cells cs2 1 true own2, .cells cs3 1 true own3, Z1] =
    some ⟨iv ((chN [sgP p1 x y, sgP p2 x y, sgP p3 x y] 0 0 : Nat) - (chN [sgP p1 u v, sgP p2 u v, sgP p3 u v] 0 0 : Nat) : Int), [Z0, .cells [sl 2 0 p1.length d1, sl 3 0 p2.length d2, sl 4 0 p3.length d3] 1 false true, .cells cs1 1 true own1, .cells cs2 1 true own2, .cells cs3 1 true own3, Z1], [1, 2, 3, 4], []⟩ := by
  have e := r52_3 c d1 d2 d3 (own1 := own1) (own2 := own2) (own3 := own3) hp1 h01 h61 hp2 h02 h62 hp3 h03 h63 x y u v hb1 hb2 hb3 hb1b hb2b hb3b
  generalize chN [sgP p1 x y, sgP p2 x y, sgP p3 x y] 0 0 = N1 at *
  generalize chN [sgP p1 u v, sgP p2 u v, sgP p3 u v] 0 0 = N2 at *
  have hm : ∀ q : Nat, 30 < q → reach [Z0, .cells [sl 2 0 p1.length d1, sl 3 0 p2.length d2, sl 4 0 p3.length d3] 1 false true, .cells cs1 1 true own1, .cells cs2 1 true own2, .cells cs3 1 true own3, Z1] 0 q [1] [] = [1, 2, 3, 4] := by
    intro q hq
    obtain ⟨q, rfl⟩ : ∃ j, q = j + 30 := ⟨q - 30, by omega⟩
    simp [reach_cons, reachC_t, reachC_f, reach_nil, rootsB, GE.mem, nblt, nbeq, ptrB, ptrT, ptrV_ptr, ptrV_sl, ptrV_int, ptrV_func, ptrFn, ptrL, dep]
  have hpp : ([sl 1 0 3 c, .agg #[iv x, iv y], .agg #[iv u, iv v]] : List Value).flatMap (ptrV dep) = [1] := rfl
  refine callH_of (by intro _; first | trivial | rfl) ?_ (by simp)
  unfold callH0
  simp only [hpp, hm reachN (by decide)]
  simp [optAll, renV_func, renFn, renL, renV_ptr, renV_agg, dep, idx, nbeq, renB, renT, renL_eq, renV_int, renV_sl, e, mergeB, renV_tuple, nblt]
theorem r56_3 (n : Nat) (hn : n ≤ 10400) (hb1 : evB (-52) 1 p1.reverse 0 1 = true) (hb2 : evB (-52) 1 p2.reverse 0 1 = true) (hb3 : evB (-52) 1 p3.reverse 0 1 = true) (hb1b : evB ((n : Int) - 5200) 100 p1.reverse 0 1 = true) (hb2b : evB ((n : Int) - 5200) 100 p2.reverse 0 1 = true) (hb3b : evB ((n : Int) - 5200) 100 p3.reverse 0 1 = true) : LL.run 56 [iv n, pp 0, pp 5] [bxP 1 3 c, .cells [sl 2 0 p1.length d1, sl 3 0 p2.length d2, sl 4 0 p3.length d3] 1 false true, .cells cs1 1 true own1, .cells cs2 1 true own2, .cells cs3 1 true own3, bxR (-52) 1] = some ⟨iv ((chN [sgP p1 (-52) 1, sgP p2 (-52) 1, sgP p3 (-52) 1] 0 0 : Nat) - (chN [sgP p1 ((n : Int) - 5200) 100, sgP p2 ((n : Int) - 5200) 100, sgP p3 ((n : Int) - 5200) 100] 0 0 : Nat) : Int), [], []⟩ := by
  have a := fun Z0 Z1 => h52D_3 c d1 d2 d3 (own1 := own1) (own2 := own2) (own3 := own3) hp1 h01 h61 hp2 h02 h62 hp3 h03 h63 Z0 Z1 (-52) 1 ((n : Int) - 5200) 100 hb1 hb2 hb3 hb1b hb2b hb3b
  generalize chN [sgP p1 (-52) 1, sgP p2 (-52) 1, sgP p3 (-52) 1] 0 0 = N1 at *
  generalize chN [sgP p1 ((n : Int) - 5200) 100, sgP p2 ((n : Int) - 5200) 100, sgP p3 ((n : Int) - 5200) 100] 0 0 = N2 at *
  clear hp1 h01 h61 hp2 h02 h62 hp3 h03 h63 hb1 hb1b hb2 hb2b hb3 hb3b
  refine go (by decide) ?_
  rw [run56 _ _ _ (by simp)]
  simp (maxSteps := 1000000) (disch := first | omega | decide | assumption | simp [scal]) [loadA_eq ia_76, loadA_eq ia_24, za_24, o_build za_24 pl_24, a]
theorem h56_3 (n : Nat) (hn : n ≤ 10400) (hb1 : evB (-52) 1 p1.reverse 0 1 = true) (hb2 : evB (-52) 1 p2.reverse 0 1 = true) (hb3 : evB (-52) 1 p3.reverse 0 1 = true) (hb1b : evB ((n : Int) - 5200) 100 p1.reverse 0 1 = true) (hb2b : evB ((n : Int) - 5200) 100 p2.reverse 0 1 = true) (hb3b : evB ((n : Int) - 5200) 100 p3.reverse 0 1 = true) (Z : Blk) (rest : List Blk) : callH LL 56 [iv n, pp 1, pp 6] (Z :: bxP 2 3 c :: .cells [sl 3 0 p1.length d1, sl 4 0 p2.length d2, sl 5 0 p3.length d3] 1 false true :: .cells cs1 1 true own1 :: .cells cs2 1 true own2 :: .cells cs3 1 true own3 :: bxR (-52) 1 :: rest) =
    some ⟨iv ((chN [sgP p1 (-52) 1, sgP p2 (-52) 1, sgP p3 (-52) 1] 0 0 : Nat) - (chN [sgP p1 ((n : Int) - 5200) 100, sgP p2 ((n : Int) - 5200) 100, sgP p3 ((n : Int) - 5200) 100] 0 0 : Nat) : Int), Z :: bxP 2 3 c :: .cells [sl 3 0 p1.length d1, sl 4 0 p2.length d2, sl 5 0 p3.length d3] 1 false true :: .cells cs1 1 true own1 :: .cells cs2 1 true own2 :: .cells cs3 1 true own3 :: bxR (-52) 1 :: rest, [1, 2, 3, 4, 5, 6], []⟩ := by
  have e := r56_3 c d1 d2 d3 (own1 := own1) (own2 := own2) (own3 := own3) hp1 h01 h61 hp2 h02 h62 hp3 h03 h63 n hn hb1 hb2 hb3 hb1b hb2b hb3b
  generalize chN [sgP p1 (-52) 1, sgP p2 (-52) 1, sgP p3 (-52) 1] 0 0 = N1 at *
  generalize chN [sgP p1 ((n : Int) - 5200) 100, sgP p2 ((n : Int) - 5200) 100, sgP p3 ((n : Int) - 5200) 100] 0 0 = N2 at *
  have hm : ∀ q : Nat, 30 < q → reach (Z :: bxP 2 3 c :: .cells [sl 3 0 p1.length d1, sl 4 0 p2.length d2, sl 5 0 p3.length d3] 1 false true :: .cells cs1 1 true own1 :: .cells cs2 1 true own2 :: .cells cs3 1 true own3 :: bxR (-52) 1 :: rest) 0 q [1, 6] [] = [1, 2, 3, 4, 5, 6] := by
    intro q hq
    obtain ⟨q, rfl⟩ : ∃ j, q = j + 30 := ⟨q - 30, by omega⟩
    simp [reach_cons, reachC_t, reachC_f, reach_nil, rootsB, GE.mem, nblt, nbeq, ptrB, ptrT, ptrV_ptr, ptrV_sl, ptrV_int, ptrV_func, ptrFn, ptrL, dep]
  have hpp : ([iv n, pp 1, pp 6] : List Value).flatMap (ptrV dep) = [1, 6] := rfl
  refine callH_of (by intro _; first | trivial | rfl) ?_ (by simp)
  unfold callH0
  simp only [hpp, hm reachN (by decide)]
  simp [optAll, renV_func, renFn, renL, renV_ptr, renV_agg, dep, idx, nbeq, renB, renT, renL_eq, renV_int, renV_sl, e, mergeB, renV_tuple, nblt]
theorem r58_3 (n : Nat) (hn : n ≤ 10400) (t : Int) (hb1 : evB (-52) 1 p1.reverse 0 1 = true) (hb2 : evB (-52) 1 p2.reverse 0 1 = true) (hb3 : evB (-52) 1 p3.reverse 0 1 = true) (hb1b : evB ((n : Int) - 5200) 100 p1.reverse 0 1 = true) (hb2b : evB ((n : Int) - 5200) 100 p2.reverse 0 1 = true) (hb3b : evB ((n : Int) - 5200) 100 p3.reverse 0 1 = true) : LL.run 58 [iv n, pp 0, pp 7] [.cells [.func (.func 56) #[] #[pp 1, pp 6]] 1 false true, bxP 2 3 c, .cells [sl 3 0 p1.length d1, sl 4 0 p2.length d2, sl 5 0 p3.length d3] 1 false true, .cells cs1 1 true own1, .cells cs2 1 true own2, .cells cs3 1 true own3, bxR (-52) 1, c1 t] = some ⟨.bool (decide (t < ((chN [sgP p1 (-52) 1, sgP p2 (-52) 1, sgP p3 (-52) 1] 0 0 : Nat) - (chN [sgP p1 ((n : Int) - 5200) 100, sgP p2 ((n : Int) - 5200) 100, sgP p3 ((n : Int) - 5200) 100] 0 0 : Nat) : Int))), [], []⟩ := by
  have a := fun Z rest => h56_3 c d1 d2 d3 (own1 := own1) (own2 := own2) (own3 := own3) hp1 h01 h61 hp2 h02 h62 hp3 h03 h63 n hn hb1 hb2 hb3 hb1b hb2b hb3b Z rest
  generalize chN [sgP p1 (-52) 1, sgP p2 (-52) 1, sgP p3 (-52) 1] 0 0 = N1 at *
  generalize chN [sgP p1 ((n : Int) - 5200) 100, sgP p2 ((n : Int) - 5200) 100, sgP p3 ((n : Int) - 5200) 100] 0 0 = N2 at *
  clear hp1 h01 h61 hp2 h02 h62 hp3 h03 h63 hb1 hb1b hb2 hb2b hb3 hb3b
  refine go (by decide) ?_
  rw [run58 _ _ _ (by simp)]
  simp (maxSteps := 1000000) (disch := first | omega | decide | assumption | simp [scal]) [loadA_eq ia_90, loadA_eq ia_3, a]
end
section
variable (z0 z1 z2 z3 z4 z5 z6 z7 : Blk) (f : Nat → Bool) (rd : List Nat) (h58 : ∀ n : Nat, n ≤ 10400 → callH LL 58 [iv n, pp 0, pp 7] [z0, z1, z2, z3, z4, z5, z6, z7] = some ⟨.bool (f n), [z0, z1, z2, z3, z4, z5, z6, z7], rd, []⟩)
include h58
theorem l57_3 : ∀ (q i j : Nat), i ≤ j → j ≤ 10400 → j - i < 2 ^ q → lpB Try.prog LL ⟨57, 26, 8, none⟩ n57_6 n57_7 ⟨[(1, .func (.func 58) #[] #[pp 0, pp 7]), (5, iv i), (6, iv j)], [z0, z1, z2, z3, z4, z5, z6, z7], []⟩ =
    some (.exit 0, ⟨[(5, iv (srch f q i j : Nat))], [z0, z1, z2, z3, z4, z5, z6, z7], []⟩) := by
  intro q
  induction q with
  | zero =>
    intro i j h1 h2 h3
    have e1 : ¬ i < j := by omega
    have e1' : ¬ (i : Int) < j := by omega
    unfold srch
    rw [lpB_eq]
    simp (maxSteps := 1000000) (disch := first | omega | decide | assumption | simp [scal]) [o_convI cv_3_106, o_convI cv_106_3, e1, e1']
  | succ q ih =>
    intro i j h1 h2 h3
    have e2 : 2 ^ (q + 1) = 2 ^ q * 2 := Nat.pow_succ ..
    unfold srch
    by_cases e1 : i < j
    · have e1' : (i : Int) < j := by omega
      have eb : Nat.blt i j = true := by rw [nblt]; simp [e1]
      rw [eb, cond_true]
      have a := h58 ((i + j) / 2) (by omega)
      have s1 := @shr1 (i + j)
      have s2 : IntKind.i64.wrap ((i : Int) + (j : Int)) = ((i + j : Nat) : Int) := by rw [Int.natCast_add]; exact wrap_i64_id (by omega) (by omega)
      have s3 : IntKind.u64.wrap ((i + j : Nat) : Int) = ((i + j : Nat) : Int) := wrap_u64_id (by omega) (by omega)
      have s4 : IntKind.u64.wrap (((i + j) / 2 : Nat) : Int) = (((i + j) / 2 : Nat) : Int) := wrap_u64_id (by omega) (by omega)
      have s5 : IntKind.i64.wrap (((i + j) / 2 : Nat) : Int) = (((i + j) / 2 : Nat) : Int) := wrap_i64_id (by omega) (by omega)
      have i1 := ih i ((i + j) / 2) (by omega) (by omega) (by omega)
      have i2 := ih ((i + j) / 2 + 1) j (by omega) (by omega) (by omega)
      have s6 : IntKind.i64.wrap ((((i + j) / 2 : Nat) : Int) + 1) = (((i + j) / 2 : Nat) : Int) + 1 := wrap_i64_id (by omega) (by omega)
      simp only [cast1] at i2
      have s7 : (i : Int) + (j : Int) = ((i + j : Nat) : Int) := by omega
      have s8 : ∀ tt cc, binA Try.prog .add tt cc (.int .i64 (i : Int)) (.int .i64 (j : Int)) = some (.int .i64 ((i + j : Nat) : Int)) := fun tt cc => by rw [bin_add, s2]
      have s9 : ∀ tt cc, binA Try.prog .shr tt cc (.int .u64 ((i + j : Nat) : Int)) (.int .u64 1) = some (.int .u64 (((i + j) / 2 : Nat) : Int)) := fun tt cc => by rw [bin_shr (by decide)]; exact congrArg (fun z => some (Value.int .u64 z)) s1
      clear ih h58 s1 s2 s7 e2 h3 eb
      generalize (i + j) / 2 = h at *
      generalize i + j = ij at *
      rw [lpB_eq]
      cases hf : f h
      · rw [hf] at a
        rw [cond_false]
        generalize srch f q (h + 1) j = Z at *
        simp (maxSteps := 1000000) (disch := first | omega | decide | assumption | simp [scal]) [o_convI cv_3_106, o_convI cv_106_3, -bin_add, -bin_shr, e1, e1', s3, s4, s5, s6, s8, s9, bin_add, a, i2]
      · rw [hf] at a
        rw [cond_true]
        generalize srch f q i h = Z at *
        simp (maxSteps := 1000000) (disch := first | omega | decide | assumption | simp [scal]) [o_convI cv_3_106, o_convI cv_106_3, -bin_add, -bin_shr, e1, e1', s3, s4, s5, s6, s8, s9, bin_add, a, i1]
    · have e1' : ¬ (i : Int) < j := by omega
      have eb : Nat.blt i j = false := by rw [nblt]; simp [e1]
      rw [eb, cond_false]
      rw [lpB_eq]
      simp (maxSteps := 1000000) (disch := first | omega | decide | assumption | simp [scal]) [o_convI cv_3_106, o_convI cv_106_3, e1, e1']
theorem r57_3 : LL.run 57 [iv 10400, .func (.func 58) #[] #[pp 0, pp 7]] [z0, z1, z2, z3, z4, z5, z6, z7] = some ⟨iv (srch f 15 0 10400 : Nat), [], []⟩ := by
  have l := l57_3 z0 z1 z2 z3 z4 z5 z6 z7 f rd h58 15 0 10400 (by omega) (by omega) (by decide)
  rw [show ((10400 : Nat) : Int) = 10400 from rfl] at l
  simp only [Int.natCast_zero] at l
  generalize srch f 15 0 10400 = Z at *
  refine go (by decide) ?_
  rw [run57 _ _ _ (by simp)]
  simp (maxSteps := 1000000) (disch := first | omega | decide | assumption | simp [scal]) [o_convI cv_3_106, o_convI cv_106_3, l]
end
section
variable (c d1 d2 d3 d4 : Nat) {cs1 cs2 cs3 cs4 : List Value} {own1 own2 own3 own4 : Bool} {p1 p2 p3 p4 : List Int} (hp1 : PoC cs1 p1) (h01 : 0 < p1.length) (h61 : p1.length ≤ 60) (hp2 : PoC cs2 p2) (h02 : 0 < p2.length) (h62 : p2.length ≤ 60) (hp3 : PoC cs3 p3) (h03 : 0 < p3.length) (h63 : p3.length ≤ 60) (hp4 : PoC cs4 p4) (h04 : 0 < p4.length) (h64 : p4.length ≤ 60)
include hp1 h01 h61 hp2 h02 h62 hp3 h03 h63 hp4 h04 h64
theorem h52D_4 (Z0 Z1 : Blk) (x y u v : Int) (hb1 : evB x y p1.reverse 0 1 = true) (hb2 : evB x y p2.reverse 0 1 = true) (hb3 : evB x y p3.reverse 0 1 = true) (hb4 : evB x y p4.reverse 0 1 = true) (hb1b : evB u v p1.reverse 0 1 = true) (hb2b : evB u v p2.reverse 0 1 = true) (hb3b : evB u v p3.reverse 0 1 = true) (hb4b : evB u v p4.reverse 0 1 = true) : callH LL 52 [sl 1 0 4 c, .agg #[iv x, iv y], .agg #[iv u, iv v]] [Z0, .cells [sl 2 0 p1.length d1, sl 3 0 p2.length d2, sl 4 0 p3.length d3, sl 5 0 p4.length d4] 1 false true, .cells cs1 1 true own1, .cells cs2 1 true own2, .cells cs3 1 true own3, .cells cs4 1 true own4, Z1] =
    some ⟨iv ((chN [sgP p1 x y, sgP p2 x y, sgP p3 x y, sgP p4 x y] 0 0 : Nat) - (chN [sgP p1 u v, sgP p2 u v, sgP p3 u v, sgP p4 u v] 0 0 : Nat) : Int), [Z0, .cells [sl 2 0 p1.length d1, sl 3 0 p2.length d2, sl 4 0 p3.length d3, sl 5 0 p4.length d4] 1 false true, .cells cs1 1 true own1, .cells cs2 1 true own2, .cells cs3 1 true own3, .cells cs4 1 true own4, Z1], [1, 2, 3, 4, 5], []⟩ := by
  have e := r52_4 c d1 d2 d3 d4 (own1 := own1) (own2 := own2) (own3 := own3) (own4 := own4) hp1 h01 h61 hp2 h02 h62 hp3 h03 h63 hp4 h04 h64 x y u v hb1 hb2 hb3 hb4 hb1b hb2b hb3b hb4b
  generalize chN [sgP p1 x y, sgP p2 x y, sgP p3 x y, sgP p4 x y] 0 0 = N1 at *
  generalize chN [sgP p1 u v, sgP p2 u v, sgP p3 u v, sgP p4 u v] 0 0 = N2 at *
  have hm : ∀ q : Nat, 30 < q → reach [Z0, .cells [sl 2 0 p1.length d1, sl 3 0 p2.length d2, sl 4 0 p3.length d3, sl 5 0 p4.length d4] 1 false true, .cells cs1 1 true own1, .cells cs2 1 true own2, .cells cs3 1 true own3, .cells cs4 1 true own4, Z1] 0 q [1] [] = [1, 2, 3, 4, 5] := by
    intro q hq
    obtain ⟨q, rfl⟩ : ∃ j, q = j + 30 := ⟨q - 30, by omega⟩
    simp [reach_cons, reachC_t, reachC_f, reach_nil, rootsB, GE.mem, nblt, nbeq, ptrB, ptrT, ptrV_ptr, ptrV_sl, ptrV_int, ptrV_func, ptrFn, ptrL, dep]
  have hpp : ([sl 1 0 4 c, .agg #[iv x, iv y], .agg #[iv u, iv v]] : List Value).flatMap (ptrV dep) = [1] := rfl
  refine callH_of (by intro _; first | trivial | rfl) ?_ (by simp)
  unfold callH0
  simp only [hpp, hm reachN (by decide)]
  simp [optAll, renV_func, renFn, renL, renV_ptr, renV_agg, dep, idx, nbeq, renB, renT, renL_eq, renV_int, renV_sl, e, mergeB, renV_tuple, nblt]
theorem r56_4 (n : Nat) (hn : n ≤ 10400) (hb1 : evB (-52) 1 p1.reverse 0 1 = true) (hb2 : evB (-52) 1 p2.reverse 0 1 = true) (hb3 : evB (-52) 1 p3.reverse 0 1 = true) (hb4 : evB (-52) 1 p4.reverse 0 1 = true) (hb1b : evB ((n : Int) - 5200) 100 p1.reverse 0 1 = true) (hb2b : evB ((n : Int) - 5200) 100 p2.reverse 0 1 = true) (hb3b : evB ((n : Int) - 5200) 100 p3.reverse 0 1 = true) (hb4b : evB ((n : Int) - 5200) 100 p4.reverse 0 1 = true) : LL.run 56 [iv n, pp 0, pp 6] [bxP 1 4 c, .cells [sl 2 0 p1.length d1, sl 3 0 p2.length d2, sl 4 0 p3.length d3, sl 5 0 p4.length d4] 1 false true, .cells cs1 1 true own1, .cells cs2 1 true own2, .cells cs3 1 true own3, .cells cs4 1 true own4, bxR (-52) 1] = some ⟨iv ((chN [sgP p1 (-52) 1, sgP p2 (-52) 1, sgP p3 (-52) 1, sgP p4 (-52) 1] 0 0 : Nat) - (chN [sgP p1 ((n : Int) - 5200) 100, sgP p2 ((n : Int) - 5200) 100, sgP p3 ((n : Int) - 5200) 100, sgP p4 ((n : Int) - 5200) 100] 0 0 : Nat) : Int), [], []⟩ := by
  have a := fun Z0 Z1 => h52D_4 c d1 d2 d3 d4 (own1 := own1) (own2 := own2) (own3 := own3) (own4 := own4) hp1 h01 h61 hp2 h02 h62 hp3 h03 h63 hp4 h04 h64 Z0 Z1 (-52) 1 ((n : Int) - 5200) 100 hb1 hb2 hb3 hb4 hb1b hb2b hb3b hb4b
  generalize chN [sgP p1 (-52) 1, sgP p2 (-52) 1, sgP p3 (-52) 1, sgP p4 (-52) 1] 0 0 = N1 at *
  generalize chN [sgP p1 ((n : Int) - 5200) 100, sgP p2 ((n : Int) - 5200) 100, sgP p3 ((n : Int) - 5200) 100, sgP p4 ((n : Int) - 5200) 100] 0 0 = N2 at *
  clear hp1 h01 h61 hp2 h02 h62 hp3 h03 h63 hp4 h04 h64 hb1 hb1b hb2 hb2b hb3 hb3b hb4 hb4b
  refine go (by decide) ?_
  rw [run56 _ _ _ (by simp)]
  simp (maxSteps := 1000000) (disch := first | omega | decide | assumption | simp [scal]) [loadA_eq ia_76, loadA_eq ia_24, za_24, o_build za_24 pl_24, a]
theorem h56_4 (n : Nat) (hn : n ≤ 10400) (hb1 : evB (-52) 1 p1.reverse 0 1 = true) (hb2 : evB (-52) 1 p2.reverse 0 1 = true) (hb3 : evB (-52) 1 p3.reverse 0 1 = true) (hb4 : evB (-52) 1 p4.reverse 0 1 = true) (hb1b : evB ((n : Int) - 5200) 100 p1.reverse 0 1 = true) (hb2b : evB ((n : Int) - 5200) 100 p2.reverse 0 1 = true) (hb3b : evB ((n : Int) - 5200) 100 p3.reverse 0 1 = true) (hb4b : evB ((n : Int) - 5200) 100 p4.reverse 0 1 = true) (Z : Blk) (rest : List Blk) : callH LL 56 [iv n, pp 1, pp 7] (Z :: bxP 2 4 c :: .cells [sl 3 0 p1.length d1, sl 4 0 p2.length d2, sl 5 0 p3.length d3, sl 6 0 p4.length d4] 1 false true :: .cells cs1 1 true own1 :: .cells cs2 1 true own2 :: .cells cs3 1 true own3 :: .cells cs4 1 true own4 :: bxR (-52) 1 :: rest) =
    some ⟨iv ((chN [sgP p1 (-52) 1, sgP p2 (-52) 1, sgP p3 (-52) 1, sgP p4 (-52) 1] 0 0 : Nat) - (chN [sgP p1 ((n : Int) - 5200) 100, sgP p2 ((n : Int) - 5200) 100, sgP p3 ((n : Int) - 5200) 100, sgP p4 ((n : Int) - 5200) 100] 0 0 : Nat) : Int), Z :: bxP 2 4 c :: .cells [sl 3 0 p1.length d1, sl 4 0 p2.length d2, sl 5 0 p3.length d3, sl 6 0 p4.length d4] 1 false true :: .cells cs1 1 true own1 :: .cells cs2 1 true own2 :: .cells cs3 1 true own3 :: .cells cs4 1 true own4 :: bxR (-52) 1 :: rest, [1, 2, 3, 4, 5, 6, 7], []⟩ := by
  have e := r56_4 c d1 d2 d3 d4 (own1 := own1) (own2 := own2) (own3 := own3) (own4 := own4) hp1 h01 h61 hp2 h02 h62 hp3 h03 h63 hp4 h04 h64 n hn hb1 hb2 hb3 hb4 hb1b hb2b hb3b hb4b
  generalize chN [sgP p1 (-52) 1, sgP p2 (-52) 1, sgP p3 (-52) 1, sgP p4 (-52) 1] 0 0 = N1 at *
  generalize chN [sgP p1 ((n : Int) - 5200) 100, sgP p2 ((n : Int) - 5200) 100, sgP p3 ((n : Int) - 5200) 100, sgP p4 ((n : Int) - 5200) 100] 0 0 = N2 at *
  have hm : ∀ q : Nat, 30 < q → reach (Z :: bxP 2 4 c :: .cells [sl 3 0 p1.length d1, sl 4 0 p2.length d2, sl 5 0 p3.length d3, sl 6 0 p4.length d4] 1 false true :: .cells cs1 1 true own1 :: .cells cs2 1 true own2 :: .cells cs3 1 true own3 :: .cells cs4 1 true own4 :: bxR (-52) 1 :: rest) 0 q [1, 7] [] = [1, 2, 3, 4, 5, 6, 7] := by
    intro q hq
    obtain ⟨q, rfl⟩ : ∃ j, q = j + 30 := ⟨q - 30, by omega⟩
    simp [reach_cons, reachC_t, reachC_f, reach_nil, rootsB, GE.mem, nblt, nbeq, ptrB, ptrT, ptrV_ptr, ptrV_sl, ptrV_int, ptrV_func, ptrFn, ptrL, dep]
  have hpp : ([iv n, pp 1, pp 7] : List Value).flatMap (ptrV dep) = [1, 7] := rfl
  refine callH_of (by intro _; first | trivial | rfl) ?_ (by simp)
  unfold callH0
  simp only [hpp, hm reachN (by decide)]
  simp [optAll, renV_func, renFn, renL, renV_ptr, renV_agg, dep, idx, nbeq, renB, renT, renL_eq, renV_int, renV_sl, e, mergeB, renV_tuple, nblt]
theorem r58_4 (n : Nat) (hn : n ≤ 10400) (t : Int) (hb1 : evB (-52) 1 p1.reverse 0 1 = true) (hb2 : evB (-52) 1 p2.reverse 0 1 = true) (hb3 : evB (-52) 1 p3.reverse 0 1 = true) (hb4 : evB (-52) 1 p4.reverse 0 1 = true) (hb1b : evB ((n : Int) - 5200) 100 p1.reverse 0 1 = true) (hb2b : evB ((n : Int) - 5200) 100 p2.reverse 0 1 = true) (hb3b : evB ((n : Int) - 5200) 100 p3.reverse 0 1 = true) (hb4b : evB ((n : Int) - 5200) 100 p4.reverse 0 1 = true) : LL.run 58 [iv n, pp 0, pp 8] [.cells [.func (.func 56) #[] #[pp 1, pp 7]] 1 false true, bxP 2 4 c, .cells [sl 3 0 p1.length d1, sl 4 0 p2.length d2, sl 5 0 p3.length d3, sl 6 0 p4.length d4] 1 false true, .cells cs1 1 true own1, .cells cs2 1 true own2, .cells cs3 1 true own3, .cells cs4 1 true own4, bxR (-52) 1, c1 t] = some ⟨.bool (decide (t < ((chN [sgP p1 (-52) 1, sgP p2 (-52) 1, sgP p3 (-52) 1, sgP p4 (-52) 1] 0 0 : Nat) - (chN [sgP p1 ((n : Int) - 5200) 100, sgP p2 ((n : Int) - 5200) 100, sgP p3 ((n : Int) - 5200) 100, sgP p4 ((n : Int) - 5200) 100] 0 0 : Nat) : Int))), [], []⟩ := by
  have a := fun Z rest => h56_4 c d1 d2 d3 d4 (own1 := own1) (own2 := own2) (own3 := own3) (own4 := own4) hp1 h01 h61 hp2 h02 h62 hp3 h03 h63 hp4 h04 h64 n hn hb1 hb2 hb3 hb4 hb1b hb2b hb3b hb4b Z rest
  generalize chN [sgP p1 (-52) 1, sgP p2 (-52) 1, sgP p3 (-52) 1, sgP p4 (-52) 1] 0 0 = N1 at *
  generalize chN [sgP p1 ((n : Int) - 5200) 100, sgP p2 ((n : Int) - 5200) 100, sgP p3 ((n : Int) - 5200) 100, sgP p4 ((n : Int) - 5200) 100] 0 0 = N2 at *
  clear hp1 h01 h61 hp2 h02 h62 hp3 h03 h63 hp4 h04 h64 hb1 hb1b hb2 hb2b hb3 hb3b hb4 hb4b
  refine go (by decide) ?_
  rw [run58 _ _ _ (by simp)]
  simp (maxSteps := 1000000) (disch := first | omega | decide | assumption | simp [scal]) [loadA_eq ia_90, loadA_eq ia_3, a]
end
section
variable (z0 z1 z2 z3 z4 z5 z6 z7 z8 : Blk) (f : Nat → Bool) (rd : List Nat) (h58 : ∀ n : Nat, n ≤ 10400 → callH LL 58 [iv n, pp 0, pp 8] [z0, z1, z2, z3, z4, z5, z6, z7, z8] = some ⟨.bool (f n), [z0, z1, z2, z3, z4, z5, z6, z7, z8], rd, []⟩)
include h58
theorem l57_4 : ∀ (q i j : Nat), i ≤ j → j ≤ 10400 → j - i < 2 ^ q → lpB Try.prog LL ⟨57, 26, 9, none⟩ n57_6 n57_7 ⟨[(1, .func (.func 58) #[] #[pp 0, pp 8]), (5, iv i), (6, iv j)], [z0, z1, z2, z3, z4, z5, z6, z7, z8], []⟩ =
    some (.exit 0, ⟨[(5, iv (srch f q i j : Nat))], [z0, z1, z2, z3, z4, z5, z6, z7, z8], []⟩) := by
  intro q
  induction q with
  | zero =>
    intro i j h1 h2 h3
    have e1 : ¬ i < j := by omega
    have e1' : ¬ (i : Int) < j := by omega
    unfold srch
    rw [lpB_eq]
    simp (maxSteps := 1000000) (disch := first | omega | decide | assumption | simp [scal]) [o_convI cv_3_106, o_convI cv_106_3, e1, e1']
  | succ q ih =>
    intro i j h1 h2 h3
    have e2 : 2 ^ (q + 1) = 2 ^ q * 2 := Nat.pow_succ ..
    unfold srch
    by_cases e1 : i < j
    · have e1' : (i : Int) < j := by omega
      have eb : Nat.blt i j = true := by rw [nblt]; simp [e1]
      rw [eb, cond_true]
      have a := h58 ((i + j) / 2) (by omega)
      have s1 := @shr1 (i + j)
      have s2 : IntKind.i64.wrap ((i : Int) + (j : Int)) = ((i + j : Nat) : Int) := by rw [Int.natCast_add]; exact wrap_i64_id (by omega) (by omega)
      have s3 : IntKind.u64.wrap ((i + j : Nat) : Int) = ((i + j : Nat) : Int) := wrap_u64_id (by omega) (by omega)
      have s4 : IntKind.u64.wrap (((i + j) / 2 : Nat) : Int) = (((i + j) / 2 : Nat) : Int) := wrap_u64_id (by omega) (by omega)
      have s5 : IntKind.i64.wrap (((i + j) / 2 : Nat) : Int) = (((i + j) / 2 : Nat) : Int) := wrap_i64_id (by omega) (by omega)
      have i1 := ih i ((i + j) / 2) (by omega) (by omega) (by omega)
      have i2 := ih ((i + j) / 2 + 1) j (by omega) (by omega) (by omega)
      have s6 : IntKind.i64.wrap ((((i + j) / 2 : Nat) : Int) + 1) = (((i + j) / 2 : Nat) : Int) + 1 := wrap_i64_id (by omega) (by omega)
      simp only [cast1] at i2
      have s7 : (i : Int) + (j : Int) = ((i + j : Nat) : Int) := by omega
      have s8 : ∀ tt cc, binA Try.prog .add tt cc (.int .i64 (i : Int)) (.int .i64 (j : Int)) = some (.int .i64 ((i + j : Nat) : Int)) := fun tt cc => by rw [bin_add, s2]
      have s9 : ∀ tt cc, binA Try.prog .shr tt cc (.int .u64 ((i + j : Nat) : Int)) (.int .u64 1) = some (.int .u64 (((i + j) / 2 : Nat) : Int)) := fun tt cc => by rw [bin_shr (by decide)]; exact congrArg (fun z => some (Value.int .u64 z)) s1
      clear ih h58 s1 s2 s7 e2 h3 eb
      generalize (i + j) / 2 = h at *
      generalize i + j = ij at *
      rw [lpB_eq]
      cases hf : f h
      · rw [hf] at a
        rw [cond_false]
        generalize srch f q (h + 1) j = Z at *
        simp (maxSteps := 1000000) (disch := first | omega | decide | assumption | simp [scal]) [o_convI cv_3_106, o_convI cv_106_3, -bin_add, -bin_shr, e1, e1', s3, s4, s5, s6, s8, s9, bin_add, a, i2]
      · rw [hf] at a
        rw [cond_true]
        generalize srch f q i h = Z at *
        simp (maxSteps := 1000000) (disch := first | omega | decide | assumption | simp [scal]) [o_convI cv_3_106, o_convI cv_106_3, -bin_add, -bin_shr, e1, e1', s3, s4, s5, s6, s8, s9, bin_add, a, i1]
    · have e1' : ¬ (i : Int) < j := by omega
      have eb : Nat.blt i j = false := by rw [nblt]; simp [e1]
      rw [eb, cond_false]
      rw [lpB_eq]
      simp (maxSteps := 1000000) (disch := first | omega | decide | assumption | simp [scal]) [o_convI cv_3_106, o_convI cv_106_3, e1, e1']
theorem r57_4 : LL.run 57 [iv 10400, .func (.func 58) #[] #[pp 0, pp 8]] [z0, z1, z2, z3, z4, z5, z6, z7, z8] = some ⟨iv (srch f 15 0 10400 : Nat), [], []⟩ := by
  have l := l57_4 z0 z1 z2 z3 z4 z5 z6 z7 z8 f rd h58 15 0 10400 (by omega) (by omega) (by decide)
  rw [show ((10400 : Nat) : Int) = 10400 from rfl] at l
  simp only [Int.natCast_zero] at l
  generalize srch f 15 0 10400 = Z at *
  refine go (by decide) ?_
  rw [run57 _ _ _ (by simp)]
  simp (maxSteps := 1000000) (disch := first | omega | decide | assumption | simp [scal]) [o_convI cv_3_106, o_convI cv_106_3, l]
end
end Go.Proofs.Ytkmompbfcgjgmaa.nt
namespace Go.Proofs.Ytkmompbfcgjgmaa.nt
open Go.GE
set_option linter.unusedVariables false
set_option linter.unusedSimpArgs false
set_option linter.unusedSectionVars false
set_option maxRecDepth 100000
set_option maxHeartbeats 4000000
attribute [local simp] runOps_nil runOps_cons runOpsF_nil runOpsF_cons fstS_some fstF_some opStep_eq want_none oStep_true oStep_false fin_pure fin_read fin_alloc fin_write storeB wrN cellV addWr o_move o_assign o_pick o_alloc o_box o_load o_store o_nilCheck o_bin o_un o_extract o_callV o_callB o_callI callV_f callV_y callV_fc o_makeFunc partsA Instr.fill builtin_len builtin_max2 bin_add bin_sub bin_mul bin_quo bin_rem bin_lss bin_leq bin_gtr bin_geq bin_eql bin_neq un_neg un_not bin_shr bin_shl wrap_u64_id opd opds optAll putO nbeq nblt constOk isC ops sub cl cr co bodyOf thenS_normal thenS_ret thenS_exit thenS_goto afterN_normal afterN_ret afterN_exit afterN_goto condS_true condS_false blockS_normal blockS_ret blockS_exit blockS_goto headS normS normK_eq fixS_nil fixS_cons fix1 fixV emptyB keepO_nil keepO_cons roundC_normal roundC_exit roundC_ret roundC_goto sweep_eq sweepD rnm pickR pickW rootsB ptrT renT ptrFn renFn ptrB_flat ptrB_non renB_flat renB_non plainS_some drawS_some fpsOk disj unord range' dropTo enumT undef wrap_i64_id Value.cells mkCells ptrTo scal cellsAt rdN endS_ret resultsA Option.bind_some tupV finish reachN dep ptrL_eq ptrL renL_eq renL ptrV_bool ptrV_int ptrV_string ptrV_nilFunc ptrV_nilIface ptrV_nilPtr ptrV_ptr ptrV_nilSl ptrV_sl ptrV_iface ptrV_agg ptrV_tuple ptrV_func renV_bool renV_int renV_string renV_nilFunc renV_nilIface renV_nilPtr renV_ptr renV_nilSl renV_sl renV_iface renV_agg renV_tuple renV_func gotoS_goto gotoS_normal gotoS_exit gotoS_ret skip_seq sliceE bnd bndHi intOf optOpd keepT_nil keepT_cons keepC_t keepC_f lk_nil lk_cons lkC_t lkC_f has_nil has_cons hasC_t hasC_f rep_nil rep_cons repC_t repC_f put_eq putC_t putC_f mem_nil mem_cons memC_t memC_f idx_nil idx_cons idxC_t idxC_f reach_nil reachP_cons reachQ_t reachQ_f ptrB_dead renB_dead ins_eq
attribute [local simp] n29_1s n29_4s n29_6s n29_9s n29_10s n29_8s n29_11s n29_7s n29_5s n29_3s n29_13s n29_15s n29_17s n29_19s n29_22s n29_26s n29_29s n29_30s n29_28s n29_34s n29_36s n29_37s n29_35s n29_33s n29_32s n29_38s n29_31s n29_27s n29_25s n29_24s n29_24g n29_23s n29_21s n29_41s n29_43s n29_46s n29_48s n29_49s n29_47s n29_45s n29_50s n29_44s n29_42s n29_40s n29_52s n29_53s n29_51s n29_39s n29_20s n29_18s n29_16s n29_14s n29_12s n29_2s n29_0s Try.f29
/-- roots up to a hundredth, by the changes -/
def upV (S : List (List Int)) (n : Nat) : Int := (vAt S (-52) 1 : Int) - (vAt S ((n : Int) - 5200) 100 : Nat)
def rt1 (S : List (List Int)) (i : Nat) : Int × Int := (((srch (fun n => decide ((i : Int) < upV S n)) 15 0 10400 : Nat) : Int) - 5200, 1)
def rtsF (S : List (List Int)) : Nat → Nat → List (Int × Int) → List (Int × Int)
  | 0, _, L => L
  | q + 1, i, L => rtsF S q (i + 1) (L ++ [rt1 S i])
theorem rtsF_len {S : List (List Int)} : ∀ (q i : Nat) (L : List (Int × Int)), (rtsF S q i L).length = L.length + q := by
  intro q
  induction q with
  | zero => intro i L; rfl
  | succ q ih => intro i L; unfold rtsF; rw [ih]; simp; omega
theorem rtC_app {L : List (Int × Int)} {r : Int × Int} : rtC (L ++ [r]) = rtC L ++ [iv r.1, iv r.2] := by simp [rtC]
theorem rtC_len {L : List (Int × Int)} : (rtC L).length = L.length * 2 := by
  induction L with
  | nil => rfl
  | cons a L ih => simp only [rtC, List.flatMap_cons, List.length_append] at ih ⊢; rw [ih]; simp; omega
section
variable {p1 p2 : List Int} (hE : evA [p1, p2] (-52) 1 = true) (hN : ∀ n : Nat, n ≤ 10400 → evA [p1, p2] ((n : Int) - 5200) 100 = true)
include hE hN
theorem h58_2 (t : Int) (n : Nat) (hn : n ≤ 10400) : callH LL 58 [iv n, pp 0, pp 6] [.cells [.func (.func 56) #[] #[pp 1, pp 5]] 1 false true, bxP 2 2 2, .cells [sl 3 0 p1.length p1.length, sl 4 0 p2.length p2.length] 1 false true, zB p1, zB p2, bxR (-52) 1, c1 t] = some ⟨.bool (decide (t < upV [p1, p2] n)), [.cells [.func (.func 56) #[] #[pp 1, pp 5]] 1 false true, bxP 2 2 2, .cells [sl 3 0 p1.length p1.length, sl 4 0 p2.length p2.length] 1 false true, zB p1, zB p2, bxR (-52) 1, c1 t], [0, 1, 2, 3, 4, 5, 6], []⟩ := by
  obtain ⟨e1, f1, g1⟩ := evA_mem hE (q := p1) (by simp)
  obtain ⟨e2, f2, g2⟩ := evA_mem hE (q := p2) (by simp)
  obtain ⟨e1b, f1b, g1b⟩ := evA_mem (hN n hn) (q := p1) (by simp)
  obtain ⟨e2b, f2b, g2b⟩ := evA_mem (hN n hn) (q := p2) (by simp)
  have e := r58_2 2 p1.length p2.length (own1 := true) (own2 := true) PoC_zm f1 g1 PoC_zm f2 g2 n hn t e1 e2 e1b e2b
  rw [show ((chN [sgP p1 (-52) 1, sgP p2 (-52) 1] 0 0 : Nat) : Int) - (chN [sgP p1 ((n : Int) - 5200) 100, sgP p2 ((n : Int) - 5200) 100] 0 0 : Nat) = upV [p1, p2] n from rfl] at e
  generalize decide (t < upV [p1, p2] n) = B at *
  simp only [zB] at e ⊢
  have hm : ∀ q : Nat, 30 < q → reach [.cells [.func (.func 56) #[] #[pp 1, pp 5]] 1 false true, bxP 2 2 2, .cells [sl 3 0 p1.length p1.length, sl 4 0 p2.length p2.length] 1 false true, .cells (zm p1) 1 true true, .cells (zm p2) 1 true true, bxR (-52) 1, c1 t] 0 q [0, 6] [] = [0, 1, 2, 3, 4, 5, 6] := by
    intro q hq
    obtain ⟨q, rfl⟩ : ∃ j, q = j + 30 := ⟨q - 30, by omega⟩
    simp [reach_cons, reachC_t, reachC_f, reach_nil, rootsB, GE.mem, nblt, nbeq, ptrB, ptrT, ptrV_ptr, ptrV_sl, ptrV_int, ptrV_func, ptrFn, ptrL, dep]
  have hpp : ([iv n, pp 0, pp 6] : List Value).flatMap (ptrV dep) = [0, 6] := rfl
  refine callH_of (by intro _; first | trivial | rfl) ?_ (by simp)
  unfold callH0
  simp only [hpp, hm reachN (by decide)]
  simp [optAll, renV_func, renFn, renL, renV_ptr, renV_agg, dep, idx, nbeq, renB, renT, renL_eq, renV_int, renV_sl, e, mergeB, renV_tuple, renV_bool, nblt]
theorem h57_2 (t : Int) (Z0 Z5 : Blk) : callH LL 57 [iv 10400, .func (.func 58) #[] #[pp 6, pp 8]] [Z0, bxP 2 2 2, .cells [sl 3 0 p1.length p1.length, sl 4 0 p2.length p2.length] 1 false true, zB p1, zB p2, bxR (-52) 1, .cells [.func (.func 56) #[] #[pp 1, pp 5]] 1 false true, Z5, c1 t] =
    some ⟨iv (srch (fun n => decide (t < upV [p1, p2] n)) 15 0 10400 : Nat), [Z0, bxP 2 2 2, .cells [sl 3 0 p1.length p1.length, sl 4 0 p2.length p2.length] 1 false true, zB p1, zB p2, bxR (-52) 1, .cells [.func (.func 56) #[] #[pp 1, pp 5]] 1 false true, Z5, c1 t], [6, 1, 2, 3, 4, 5, 8], []⟩ := by
  have e := r57_2 (.cells [.func (.func 56) #[] #[pp 1, pp 5]] 1 false true) (bxP 2 2 2) (.cells [sl 3 0 p1.length p1.length, sl 4 0 p2.length p2.length] 1 false true) (zB p1) (zB p2) (bxR (-52) 1) (c1 t) (fun n => decide (t < upV [p1, p2] n)) _ (fun n hn => h58_2 hE hN t n hn)
  generalize srch (fun n => decide (t < upV [p1, p2] n)) 15 0 10400 = B at *
  simp only [zB] at e ⊢
  have hm : ∀ q : Nat, 30 < q → reach [Z0, bxP 2 2 2, .cells [sl 3 0 p1.length p1.length, sl 4 0 p2.length p2.length] 1 false true, .cells (zm p1) 1 true true, .cells (zm p2) 1 true true, bxR (-52) 1, .cells [.func (.func 56) #[] #[pp 1, pp 5]] 1 false true, Z5, c1 t] 0 q [6, 8] [] = [6, 1, 2, 3, 4, 5, 8] := by
    intro q hq
    obtain ⟨q, rfl⟩ : ∃ j, q = j + 30 := ⟨q - 30, by omega⟩
    simp [reach_cons, reachC_t, reachC_f, reach_nil, rootsB, GE.mem, nblt, nbeq, ptrB, ptrT, ptrV_ptr, ptrV_sl, ptrV_int, ptrV_func, ptrFn, ptrL, dep]
  have hpp : ([iv 10400, .func (.func 58) #[] #[pp 6, pp 8]] : List Value).flatMap (ptrV dep) = [6, 8] := rfl
  refine callH_of (by intro _; first | trivial | rfl) ?_ (by simp)
  unfold callH0
  simp only [hpp, hm reachN (by decide)]
  simp [optAll, renV_func, renFn, renL, renV_ptr, renV_agg, dep, idx, nbeq, renB, renT, renL_eq, renV_int, renV_sl, e, mergeB, renV_tuple, renV_bool, nblt]
theorem l29_2 {cs : List Value} {own : Bool} (n c cnt : Nat) (hc : cnt ≤ 10) : ∀ (q i : Nat) (L : List (Int × Int)), i + q = cnt → L.length = i →
    lpB Try.prog LL ⟨29, 65, 1, none⟩ n29_24 n29_25 ⟨[(0, sl 0 0 n c), (5, pp 1), (6, pp 5), (7, pp 6), (8, sl 7 0 L.length L.length), (24, iv cnt), (25, iv i)], [.cells cs 1 true own, bxP 2 2 2, .cells [sl 3 0 p1.length p1.length, sl 4 0 p2.length p2.length] 1 false true, zB p1, zB p2, bxR (-52) 1, .cells [.func (.func 56) #[] #[pp 1, pp 5]] 1 false true, rtB L], []⟩ =
      some (.exit 0, ⟨[(0, sl 0 0 n c), (5, pp 1), (6, pp 5), (8, sl 6 0 (rtsF [p1, p2] q i L).length (rtsF [p1, p2] q i L).length)], [.cells cs 1 true own, bxP 2 2 2, .cells [sl 3 0 p1.length p1.length, sl 4 0 p2.length p2.length] 1 false true, zB p1, zB p2, bxR (-52) 1, rtB (rtsF [p1, p2] q i L)], []⟩) := by
  intro q
  induction q with
  | zero =>
    intro i L hi hL
    obtain rfl : i = cnt := by omega
    simp only [rtsF, zB, rtB]
    generalize rtC L = X
    generalize zm p1 = M1
    generalize zm p2 = M2
    rw [lpB_eq]
    simp (maxSteps := 1000000) (disch := first | omega | decide | assumption | simp [scal]) [za_76, sz_76, za_24, o_build za_24 pl_24, sz_24, za_90, sz_90, loadA_eq ia_90, za_3, sz_3, za_48, o_build za_48 pl_48, o_indexAddrS es_40, ze_40, o_buildSlice es_40 ze_40 (by decide) ba_40_1, ap_40, builtin_append ni_40, lenA_sl lk_71, loadA_eq ia_76, loadA_eq ia_24, o_indexAddrS es_71, loadA_eq ia_3, o_fieldAddr fa_48_1 (by decide)]
  | succ q ih =>
    intro i L hi hL
    have e0 : i < cnt := by omega
    have e1 : (i : Int) < cnt := by omega
    have this := ih (i + 1) (L ++ [rt1 [p1, p2] i]) (by omega) (by simp [hL])
    have a57 := fun Z0 Z5 => h57_2 hE hN (i : Int) Z0 Z5
    have hs := srch_le (f := fun n => decide ((i : Int) < upV [p1, p2] n)) 15 0 10400 (by omega)
    have er : rt1 [p1, p2] i = (((srch (fun n => decide ((i : Int) < upV [p1, p2] n)) 15 0 10400 : Nat) : Int) - 5200, 1) := rfl
    have ag := fun (hp : List Blk) (b c : Nat) (rd : List Nat) (x y : Int) => app_r (h := hp) (b := b) (c := c) (l := L.length) (n := 1) (cs := rtC L) (new := [iv x, iv y]) (rd := rd) (by decide) rtC_len (by omega) rfl
    have hpo : ∀ hp b c rd x y, appS hp 2 16 b 0 L.length c (some (.cells (rtC L) 2 true true)) (some (1, [iv x, iv y], true, rd)) = _ := fun hp b c rd x y => ag hp b c rd x y
    rw [show rtsF [p1, p2] (q + 1) i L = rtsF [p1, p2] q (i + 1) (L ++ [rt1 [p1, p2] i]) from rfl]
    rw [er] at this ⊢
    generalize srch (fun n => decide ((i : Int) < upV [p1, p2] n)) 15 0 10400 = sv at *
    generalize rtsF [p1, p2] q (i + 1) _ = Z at *
    simp only [cast1, List.length_append, List.length_singleton] at this
    simp only [rtB, rtC_app] at this ⊢
    simp only [zB] at this a57 ⊢
    clear ih ag er hE hN
    generalize rtC L = X at *
    generalize rtC Z = X2 at *
    generalize zm p1 = M1 at *
    generalize zm p2 = M2 at *
    rw [lpB_eq]
    simp (maxSteps := 1000000) (disch := first | omega | decide | assumption | simp [scal]) [za_76, sz_76, za_24, o_build za_24 pl_24, sz_24, za_90, sz_90, loadA_eq ia_90, za_3, sz_3, za_48, o_build za_48 pl_48, o_indexAddrS es_40, ze_40, o_buildSlice es_40 ze_40 (by decide) ba_40_1, ap_40, builtin_append ni_40, lenA_sl lk_71, loadA_eq ia_76, loadA_eq ia_24, o_indexAddrS es_71, loadA_eq ia_3, o_fieldAddr fa_48_1 (by decide), e0, e1, a57, append_some ap_40, srcCells, hpo, this]
end
section
variable {p1 p2 p3 : List Int} (hE : evA [p1, p2, p3] (-52) 1 = true) (hN : ∀ n : Nat, n ≤ 10400 → evA [p1, p2, p3] ((n : Int) - 5200) 100 = true)
include hE hN
theorem h58_3 (t : Int) (n : Nat) (hn : n ≤ 10400) : callH LL 58 [iv n, pp 0, pp 7] [.cells [.func (.func 56) #[] #[pp 1, pp 6]] 1 false true, bxP 2 3 3, .cells [sl 3 0 p1.length p1.length, sl 4 0 p2.length p2.length, sl 5 0 p3.length p3.length] 1 false true, zB p1, zB p2, zB p3, bxR (-52) 1, c1 t] = some ⟨.bool (decide (t < upV [p1, p2, p3] n)), [.cells [.func (.func 56) #[] #[pp 1, pp 6]] 1 false true, bxP 2 3 3, .cells [sl 3 0 p1.length p1.length, sl 4 0 p2.length p2.length, sl 5 0 p3.length p3.length] 1 false true, zB p1, zB p2, zB p3, bxR (-52) 1, c1 t], [0, 1, 2, 3, 4, 5, 6, 7], []⟩ := by
  obtain ⟨e1, f1, g1⟩ := evA_mem hE (q := p1) (by simp)
  obtain ⟨e2, f2, g2⟩ := evA_mem hE (q := p2) (by simp)
  obtain ⟨e3, f3, g3⟩ := evA_mem hE (q := p3) (by simp)
  obtain ⟨e1b, f1b, g1b⟩ := evA_mem (hN n hn) (q := p1) (by simp)
  obtain ⟨e2b, f2b, g2b⟩ := evA_mem (hN n hn) (q := p2) (by simp)
  obtain ⟨e3b, f3b, g3b⟩ := evA_mem (hN n hn) (q := p3) (by simp)
  have e := r58_3 3 p1.length p2.length p3.length (own1 := true) (own2 := true) (own3 := true) PoC_zm f1 g1 PoC_zm f2 g2 PoC_zm f3 g3 n hn t e1 e2 e3 e1b e2b e3b
  rw [show ((chN [sgP p1 (-52) 1, sgP p2 (-52) 1, sgP p3 (-52) 1] 0 0 : Nat) : Int) - (chN [sgP p1 ((n : Int) - 5200) 100, sgP p2 ((n : Int) - 5200) 100, sgP p3 ((n : Int) - 5200) 100] 0 0 : Nat) = upV [p1, p2, p3] n from rfl] at e
  generalize decide (t < upV [p1, p2, p3] n) = B at *
  simp only [zB] at e ⊢
  have hm : ∀ q : Nat, 30 < q → reach [.cells [.func (.func 56) #[] #[pp 1, pp 6]] 1 false true, bxP 2 3 3, .cells [sl 3 0 p1.length p1.length, sl 4 0 p2.length p2.length, sl 5 0 p3.length p3.length] 1 false true, .cells (zm p1) 1 true true, .cells (zm p2) 1 true true, .cells (zm p3) 1 true true, bxR (-52) 1, c1 t] 0 q [0, 7] [] = [0, 1, 2, 3, 4, 5, 6, 7] := by
    intro q hq
    obtain ⟨q, rfl⟩ : ∃ j, q = j + 30 := ⟨q - 30, by omega⟩
    simp [reach_cons, reachC_t, reachC_f, reach_nil, rootsB, GE.mem, nblt, nbeq, ptrB, ptrT, ptrV_ptr, ptrV_sl, ptrV_int, ptrV_func, ptrFn, ptrL, dep]
  have hpp : ([iv n, pp 0, pp 7] : List Value).flatMap (ptrV dep) = [0, 7] := rfl
  refine callH_of (by intro _; first | trivial | rfl) ?_ (by simp)
  unfold callH0
  simp only [hpp, hm reachN (by decide)]
  simp [optAll, renV_func, renFn, renL, renV_ptr, renV_agg, dep, idx, nbeq, renB, renT, renL_eq, renV_int, renV_sl, e, mergeB, renV_tuple, renV_bool, nblt]
theorem h57_3 (t : Int) (Z0 Z5 : Blk) : callH LL 57 [iv 10400, .func (.func 58) #[] #[pp 7, pp 9]] [Z0, bxP 2 3 3, .cells [sl 3 0 p1.length p1.length, sl 4 0 p2.length p2.length, sl 5 0 p3.length p3.length] 1 false true, zB p1, zB p2, zB p3, bxR (-52) 1, .cells [.func (.func 56) #[] #[pp 1, pp 6]] 1 false true, Z5, c1 t] =
    some ⟨iv (srch (fun n => decide (t < upV [p1, p2, p3] n)) 15 0 10400 : Nat), [Z0, bxP 2 3 3, .cells [sl 3 0 p1.length p1.length, sl 4 0 p2.length p2.length, sl 5 0 p3.length p3.length] 1 false true, zB p1, zB p2, zB p3, bxR (-52) 1, .cells [.func (.func 56) #[] #[pp 1, pp 6]] 1 false true, Z5, c1 t], [7, 1, 2, 3, 4, 5, 6, 9], []⟩ := by
  have e := r57_3 (.cells [.func (.func 56) #[] #[pp 1, pp 6]] 1 false true) (bxP 2 3 3) (.cells [sl 3 0 p1.length p1.length, sl 4 0 p2.length p2.length, sl 5 0 p3.length p3.length] 1 false true) (zB p1) (zB p2) (zB p3) (bxR (-52) 1) (c1 t) (fun n => decide (t < upV [p1, p2, p3] n)) _ (fun n hn => h58_3 hE hN t n hn)
  generalize srch (fun n => decide (t < upV [p1, p2, p3] n)) 15 0 10400 = B at *
  simp only [zB] at e ⊢
  have hm : ∀ q : Nat, 30 < q → reach [Z0, bxP 2 3 3, .cells [sl 3 0 p1.length p1.length, sl 4 0 p2.length p2.length, sl 5 0 p3.length p3.length] 1 false true, .cells (zm p1) 1 true true, .cells (zm p2) 1 true true, .cells (zm p3) 1 true true, bxR (-52) 1, .cells [.func (.func 56) #[] #[pp 1, pp 6]] 1 false true, Z5, c1 t] 0 q [7, 9] [] = [7, 1, 2, 3, 4, 5, 6, 9] := by
    intro q hq
    obtain ⟨q, rfl⟩ : ∃ j, q = j + 30 := ⟨q - 30, by omega⟩
    simp [reach_cons, reachC_t, reachC_f, reach_nil, rootsB, GE.mem, nblt, nbeq, ptrB, ptrT, ptrV_ptr, ptrV_sl, ptrV_int, ptrV_func, ptrFn, ptrL, dep]
  have hpp : ([iv 10400, .func (.func 58) #[] #[pp 7, pp 9]] : List Value).flatMap (ptrV dep) = [7, 9] := rfl
  refine callH_of (by intro _; first | trivial | rfl) ?_ (by simp)
  unfold callH0
  simp only [hpp, hm reachN (by decide)]
  simp [optAll, renV_func, renFn, renL, renV_ptr, renV_agg, dep, idx, nbeq, renB, renT, renL_eq, renV_int, renV_sl, e, mergeB, renV_tuple, renV_bool, nblt]
theorem l29_3 {cs : List Value} {own : Bool} (n c cnt : Nat) (hc : cnt ≤ 10) : ∀ (q i : Nat) (L : List (Int × Int)), i + q = cnt → L.length = i →
    lpB Try.prog LL ⟨29, 65, 1, none⟩ n29_24 n29_25 ⟨[(0, sl 0 0 n c), (5, pp 1), (6, pp 6), (7, pp 7), (8, sl 8 0 L.length L.length), (24, iv cnt), (25, iv i)], [.cells cs 1 true own, bxP 2 3 3, .cells [sl 3 0 p1.length p1.length, sl 4 0 p2.length p2.length, sl 5 0 p3.length p3.length] 1 false true, zB p1, zB p2, zB p3, bxR (-52) 1, .cells [.func (.func 56) #[] #[pp 1, pp 6]] 1 false true, rtB L], []⟩ =
      some (.exit 0, ⟨[(0, sl 0 0 n c), (5, pp 1), (6, pp 6), (8, sl 7 0 (rtsF [p1, p2, p3] q i L).length (rtsF [p1, p2, p3] q i L).length)], [.cells cs 1 true own, bxP 2 3 3, .cells [sl 3 0 p1.length p1.length, sl 4 0 p2.length p2.length, sl 5 0 p3.length p3.length] 1 false true, zB p1, zB p2, zB p3, bxR (-52) 1, rtB (rtsF [p1, p2, p3] q i L)], []⟩) := by
  intro q
  induction q with
  | zero =>
    intro i L hi hL
    obtain rfl : i = cnt := by omega
    simp only [rtsF, zB, rtB]
    generalize rtC L = X
    generalize zm p1 = M1
    generalize zm p2 = M2
    generalize zm p3 = M3
    rw [lpB_eq]
    simp (maxSteps := 1000000) (disch := first | omega | decide | assumption | simp [scal]) [za_76, sz_76, za_24, o_build za_24 pl_24, sz_24, za_90, sz_90, loadA_eq ia_90, za_3, sz_3, za_48, o_build za_48 pl_48, o_indexAddrS es_40, ze_40, o_buildSlice es_40 ze_40 (by decide) ba_40_1, ap_40, builtin_append ni_40, lenA_sl lk_71, loadA_eq ia_76, loadA_eq ia_24, o_indexAddrS es_71, loadA_eq ia_3, o_fieldAddr fa_48_1 (by decide)]
  | succ q ih =>
    intro i L hi hL
    have e0 : i < cnt := by omega
    have e1 : (i : Int) < cnt := by omega
    have this := ih (i + 1) (L ++ [rt1 [p1, p2, p3] i]) (by omega) (by simp [hL])
    have a57 := fun Z0 Z5 => h57_3 hE hN (i : Int) Z0 Z5
    have hs := srch_le (f := fun n => decide ((i : Int) < upV [p1, p2, p3] n)) 15 0 10400 (by omega)
    have er : rt1 [p1, p2, p3] i = (((srch (fun n => decide ((i : Int) < upV [p1, p2, p3] n)) 15 0 10400 : Nat) : Int) - 5200, 1) := rfl
    have ag := fun (hp : List Blk) (b c : Nat) (rd : List Nat) (x y : Int) => app_r (h := hp) (b := b) (c := c) (l := L.length) (n := 1) (cs := rtC L) (new := [iv x, iv y]) (rd := rd) (by decide) rtC_len (by omega) rfl
    have hpo : ∀ hp b c rd x y, appS hp 2 16 b 0 L.length c (some (.cells (rtC L) 2 true true)) (some (1, [iv x, iv y], true, rd)) = _ := fun hp b c rd x y => ag hp b c rd x y
    rw [show rtsF [p1, p2, p3] (q + 1) i L = rtsF [p1, p2, p3] q (i + 1) (L ++ [rt1 [p1, p2, p3] i]) from rfl]
    rw [er] at this ⊢
    generalize srch (fun n => decide ((i : Int) < upV [p1, p2, p3] n)) 15 0 10400 = sv at *
    generalize rtsF [p1, p2, p3] q (i + 1) _ = Z at *
    simp only [cast1, List.length_append, List.length_singleton] at this
    simp only [rtB, rtC_app] at this ⊢
    simp only [zB] at this a57 ⊢
    clear ih ag er hE hN
    generalize rtC L = X at *
    generalize rtC Z = X2 at *
    generalize zm p1 = M1 at *
    generalize zm p2 = M2 at *
    generalize zm p3 = M3 at *
    rw [lpB_eq]
    simp (maxSteps := 1000000) (disch := first | omega | decide | assumption | simp [scal]) [za_76, sz_76, za_24, o_build za_24 pl_24, sz_24, za_90, sz_90, loadA_eq ia_90, za_3, sz_3, za_48, o_build za_48 pl_48, o_indexAddrS es_40, ze_40, o_buildSlice es_40 ze_40 (by decide) ba_40_1, ap_40, builtin_append ni_40, lenA_sl lk_71, loadA_eq ia_76, loadA_eq ia_24, o_indexAddrS es_71, loadA_eq ia_3, o_fieldAddr fa_48_1 (by decide), e0, e1, a57, append_some ap_40, srcCells, hpo, this]
end
section
variable {p1 p2 p3 p4 : List Int} (hE : evA [p1, p2, p3, p4] (-52) 1 = true) (hN : ∀ n : Nat, n ≤ 10400 → evA [p1, p2, p3, p4] ((n : Int) - 5200) 100 = true)
include hE hN
theorem h58_4 (t : Int) (n : Nat) (hn : n ≤ 10400) : callH LL 58 [iv n, pp 0, pp 8] [.cells [.func (.func 56) #[] #[pp 1, pp 7]] 1 false true, bxP 2 4 4, .cells [sl 3 0 p1.length p1.length, sl 4 0 p2.length p2.length, sl 5 0 p3.length p3.length, sl 6 0 p4.length p4.length] 1 false true, zB p1, zB p2, zB p3, zB p4, bxR (-52) 1, c1 t] = some ⟨.bool (decide (t < upV [p1, p2, p3, p4] n)), [.cells [.func (.func 56) #[] #[pp 1, pp 7]] 1 false true, bxP 2 4 4, .cells [sl 3 0 p1.length p1.length, sl 4 0 p2.length p2.length, sl 5 0 p3.length p3.length, sl 6 0 p4.length p4.length] 1 false true, zB p1, zB p2, zB p3, zB p4, bxR (-52) 1, c1 t], [0, 1, 2, 3, 4, 5, 6, 7, 8], []⟩ := by
  obtain ⟨e1, f1, g1⟩ := evA_mem hE (q := p1) (by simp)
  obtain ⟨e2, f2, g2⟩ := evA_mem hE (q := p2) (by simp)
  obtain ⟨e3, f3, g3⟩ := evA_mem hE (q := p3) (by simp)
  obtain ⟨e4, f4, g4⟩ := evA_mem hE (q := p4) (by simp)
  obtain ⟨e1b, f1b, g1b⟩ := evA_mem (hN n hn) (q := p1) (by simp)
  obtain ⟨e2b, f2b, g2b⟩ := evA_mem (hN n hn) (q := p2) (by simp)
  obtain ⟨e3b, f3b, g3b⟩ := evA_mem (hN n hn) (q := p3) (by simp)
  obtain ⟨e4b, f4b, g4b⟩ := evA_mem (hN n hn) (q := p4) (by simp)
  have e := r58_4 4 p1.length p2.length p3.length p4.length (own1 := true) (own2 := true) (own3 := true) (own4 := true) PoC_zm f1 g1 PoC_zm f2 g2 PoC_zm f3 g3 PoC_zm f4 g4 n hn t e1 e2 e3 e4 e1b e2b e3b e4b
  rw [show ((chN [sgP p1 (-52) 1, sgP p2 (-52) 1, sgP p3 (-52) 1, sgP p4 (-52) 1] 0 0 : Nat) : Int) - (chN [sgP p1 ((n : Int) - 5200) 100, sgP p2 ((n : Int) - 5200) 100, sgP p3 ((n : Int) - 5200) 100, sgP p4 ((n : Int) - 5200) 100] 0 0 : Nat) = upV [p1, p2, p3, p4] n from rfl] at e
  generalize decide (t < upV [p1, p2, p3, p4] n) = B at *
  simp only [zB] at e ⊢
  have hm : ∀ q : Nat, 30 < q → reach [.cells [.func (.func 56) #[] #[pp 1, pp 7]] 1 false true, bxP 2 4 4, .cells [sl 3 0 p1.length p1.length, sl 4 0 p2.length p2.length, sl 5 0 p3.length p3.length, sl 6 0 p4.length p4.length] 1 false true, .cells (zm p1) 1 true true, .cells (zm p2) 1 true true, .cells (zm p3) 1 true true, .cells (zm p4) 1 true true, bxR (-52) 1, c1 t] 0 q [0, 8] [] = [0, 1, 2, 3, 4, 5, 6, 7, 8] := by
    intro q hq
    obtain ⟨q, rfl⟩ : ∃ j, q = j + 30 := ⟨q - 30, by omega⟩
    simp [reach_cons, reachC_t, reachC_f, reach_nil, rootsB, GE.mem, nblt, nbeq, ptrB, ptrT, ptrV_ptr, ptrV_sl, ptrV_int, ptrV_func, ptrFn, ptrL, dep]
  have hpp : ([iv n, pp 0, pp 8] : List Value).flatMap (ptrV dep) = [0, 8] := rfl
  refine callH_of (by intro _; first | trivial | rfl) ?_ (by simp)
  unfold callH0
  simp only [hpp, hm reachN (by decide)]
  simp [optAll, renV_func, renFn, renL, renV_ptr, renV_agg, dep, idx, nbeq, renB, renT, renL_eq, renV_int, renV_sl, e, mergeB, renV_tuple, renV_bool, nblt]
theorem h57_4 (t : Int) (Z0 Z5 : Blk) : callH LL 57 [iv 10400, .func (.func 58) #[] #[pp 8, pp 10]] [Z0, bxP 2 4 4, .cells [sl 3 0 p1.length p1.length, sl 4 0 p2.length p2.length, sl 5 0 p3.length p3.length, sl 6 0 p4.length p4.length] 1 false true, zB p1, zB p2, zB p3, zB p4, bxR (-52) 1, .cells [.func (.func 56) #[] #[pp 1, pp 7]] 1 false true, Z5, c1 t] =
    some ⟨iv (srch (fun n => decide (t < upV [p1, p2, p3, p4] n)) 15 0 10400 : Nat), [Z0, bxP 2 4 4, .cells [sl 3 0 p1.length p1.length, sl 4 0 p2.length p2.length, sl 5 0 p3.length p3.length, sl 6 0 p4.length p4.length] 1 false true, zB p1, zB p2, zB p3, zB p4, bxR (-52) 1, .cells [.func (.func 56) #[] #[pp 1, pp 7]] 1 false true, Z5, c1 t], [8, 1, 2, 3, 4, 5, 6, 7, 10], []⟩ := by
  have e := r57_4 (.cells [.func (.func 56) #[] #[pp 1, pp 7]] 1 false true) (bxP 2 4 4) (.cells [sl 3 0 p1.length p1.length, sl 4 0 p2.length p2.length, sl 5 0 p3.length p3.length, sl 6 0 p4.length p4.length] 1 false true) (zB p1) (zB p2) (zB p3) (zB p4) (bxR (-52) 1) (c1 t) (fun n => decide (t < upV [p1, p2, p3, p4] n)) _ (fun n hn => h58_4 hE hN t n hn)
  generalize srch (fun n => decide (t < upV [p1, p2, p3, p4] n)) 15 0 10400 = B at *
  simp only [zB] at e ⊢
  have hm : ∀ q : Nat, 30 < q → reach [Z0, bxP 2 4 4, .cells [sl 3 0 p1.length p1.length, sl 4 0 p2.length p2.length, sl 5 0 p3.length p3.length, sl 6 0 p4.length p4.length] 1 false true, .cells (zm p1) 1 true true, .cells (zm p2) 1 true true, .cells (zm p3) 1 true true, .cells (zm p4) 1 true true, bxR (-52) 1, .cells [.func (.func 56) #[] #[pp 1, pp 7]] 1 false true, Z5, c1 t] 0 q [8, 10] [] = [8, 1, 2, 3, 4, 5, 6, 7, 10] := by
    intro q hq
    obtain ⟨q, rfl⟩ : ∃ j, q = j + 30 := ⟨q - 30, by omega⟩
    simp [reach_cons, reachC_t, reachC_f, reach_nil, rootsB, GE.mem, nblt, nbeq, ptrB, ptrT, ptrV_ptr, ptrV_sl, ptrV_int, ptrV_func, ptrFn, ptrL, dep]
  have hpp : ([iv 10400, .func (.func 58) #[] #[pp 8, pp 10]] : List Value).flatMap (ptrV dep) = [8, 10] := rfl
  refine callH_of (by intro _; first | trivial | rfl) ?_ (by simp)
  unfold callH0
  simp only [hpp, hm reachN (by decide)]
  simp [optAll, renV_func, renFn, renL, renV_ptr, renV_agg, dep, idx, nbeq, renB, renT, renL_eq, renV_int, renV_sl, e, mergeB, renV_tuple, renV_bool, nblt]
theorem l29_4 {cs : List Value} {own : Bool} (n c cnt : Nat) (hc : cnt ≤ 10) : ∀ (q i : Nat) (L : List (Int × Int)), i + q = cnt → L.length = i →
    lpB Try.prog LL ⟨29, 65, 1, none⟩ n29_24 n29_25 ⟨[(0, sl 0 0 n c), (5, pp 1), (6, pp 7), (7, pp 8), (8, sl 9 0 L.length L.length), (24, iv cnt), (25, iv i)], [.cells cs 1 true own, bxP 2 4 4, .cells [sl 3 0 p1.length p1.length, sl 4 0 p2.length p2.length, sl 5 0 p3.length p3.length, sl 6 0 p4.length p4.length] 1 false true, zB p1, zB p2, zB p3, zB p4, bxR (-52) 1, .cells [.func (.func 56) #[] #[pp 1, pp 7]] 1 false true, rtB L], []⟩ =
      some (.exit 0, ⟨[(0, sl 0 0 n c), (5, pp 1), (6, pp 7), (8, sl 8 0 (rtsF [p1, p2, p3, p4] q i L).length (rtsF [p1, p2, p3, p4] q i L).length)], [.cells cs 1 true own, bxP 2 4 4, .cells [sl 3 0 p1.length p1.length, sl 4 0 p2.length p2.length, sl 5 0 p3.length p3.length, sl 6 0 p4.length p4.length] 1 false true, zB p1, zB p2, zB p3, zB p4, bxR (-52) 1, rtB (rtsF [p1, p2, p3, p4] q i L)], []⟩) := by
  intro q
  induction q with
  | zero =>
    intro i L hi hL
    obtain rfl : i = cnt := by omega
    simp only [rtsF, zB, rtB]
    generalize rtC L = X
    generalize zm p1 = M1
    generalize zm p2 = M2
    generalize zm p3 = M3
    generalize zm p4 = M4
    rw [lpB_eq]
    simp (maxSteps := 1000000) (disch := first | omega | decide | assumption | simp [scal]) [za_76, sz_76, za_24, o_build za_24 pl_24, sz_24, za_90, sz_90, loadA_eq ia_90, za_3, sz_3, za_48, o_build za_48 pl_48, o_indexAddrS es_40, ze_40, o_buildSlice es_40 ze_40 (by decide) ba_40_1, ap_40, builtin_append ni_40, lenA_sl lk_71, loadA_eq ia_76, loadA_eq ia_24, o_indexAddrS es_71, loadA_eq ia_3, o_fieldAddr fa_48_1 (by decide)]
  | succ q ih =>
    intro i L hi hL
    have e0 : i < cnt := by omega
    have e1 : (i : Int) < cnt := by omega
    have this := ih (i + 1) (L ++ [rt1 [p1, p2, p3, p4] i]) (by omega) (by simp [hL])
    have a57 := fun Z0 Z5 => h57_4 hE hN (i : Int) Z0 Z5
    have hs := srch_le (f := fun n => decide ((i : Int) < upV [p1, p2, p3, p4] n)) 15 0 10400 (by omega)
    have er : rt1 [p1, p2, p3, p4] i = (((srch (fun n => decide ((i : Int) < upV [p1, p2, p3, p4] n)) 15 0 10400 : Nat) : Int) - 5200, 1) := rfl
    have ag := fun (hp : List Blk) (b c : Nat) (rd : List Nat) (x y : Int) => app_r (h := hp) (b := b) (c := c) (l := L.length) (n := 1) (cs := rtC L) (new := [iv x, iv y]) (rd := rd) (by decide) rtC_len (by omega) rfl
    have hpo : ∀ hp b c rd x y, appS hp 2 16 b 0 L.length c (some (.cells (rtC L) 2 true true)) (some (1, [iv x, iv y], true, rd)) = _ := fun hp b c rd x y => ag hp b c rd x y
    rw [show rtsF [p1, p2, p3, p4] (q + 1) i L = rtsF [p1, p2, p3, p4] q (i + 1) (L ++ [rt1 [p1, p2, p3, p4] i]) from rfl]
    rw [er] at this ⊢
    generalize srch (fun n => decide ((i : Int) < upV [p1, p2, p3, p4] n)) 15 0 10400 = sv at *
    generalize rtsF [p1, p2, p3, p4] q (i + 1) _ = Z at *
    simp only [cast1, List.length_append, List.length_singleton] at this
    simp only [rtB, rtC_app] at this ⊢
    simp only [zB] at this a57 ⊢
    clear ih ag er hE hN
    generalize rtC L = X at *
    generalize rtC Z = X2 at *
    generalize zm p1 = M1 at *
    generalize zm p2 = M2 at *
    generalize zm p3 = M3 at *
    generalize zm p4 = M4 at *
    rw [lpB_eq]
    simp (maxSteps := 1000000) (disch := first | omega | decide | assumption | simp [scal]) [za_76, sz_76, za_24, o_build za_24 pl_24, sz_24, za_90, sz_90, loadA_eq ia_90, za_3, sz_3, za_48, o_build za_48 pl_48, o_indexAddrS es_40, ze_40, o_buildSlice es_40 ze_40 (by decide) ba_40_1, ap_40, builtin_append ni_40, lenA_sl lk_71, loadA_eq ia_76, loadA_eq ia_24, o_indexAddrS es_71, loadA_eq ia_3, o_fieldAddr fa_48_1 (by decide), e0, e1, a57, append_some ap_40, srcCells, hpo, this]
end
end Go.Proofs.Ytkmompbfcgjgmaa.nt
namespace Go.Proofs.Ytkmompbfcgjgmaa.nt
open Go.GE
set_option linter.unusedVariables false
set_option linter.unusedSimpArgs false
set_option linter.unusedSectionVars false
set_option maxRecDepth 100000
set_option maxHeartbeats 4000000
attribute [local simp] runOps_nil runOps_cons runOpsF_nil runOpsF_cons fstS_some fstF_some opStep_eq want_none oStep_true oStep_false fin_pure fin_read fin_alloc fin_write storeB wrN cellV addWr o_move o_assign o_pick o_alloc o_box o_load o_store o_nilCheck o_bin o_un o_extract o_callV o_callB o_callI callV_f callV_y callV_fc o_makeFunc partsA Instr.fill builtin_len builtin_max2 bin_add bin_sub bin_mul bin_quo bin_rem bin_lss bin_leq bin_gtr bin_geq bin_eql bin_neq un_neg un_not bin_shr bin_shl wrap_u64_id opd opds optAll putO nbeq nblt constOk isC ops sub cl cr co bodyOf thenS_normal thenS_ret thenS_exit thenS_goto afterN_normal afterN_ret afterN_exit afterN_goto condS_true condS_false blockS_normal blockS_ret blockS_exit blockS_goto headS normS normK_eq fixS_nil fixS_cons fix1 fixV emptyB keepO_nil keepO_cons roundC_normal roundC_exit roundC_ret roundC_goto sweep_eq sweepD rnm pickR pickW rootsB ptrT renT ptrFn renFn ptrB_flat ptrB_non renB_flat renB_non plainS_some drawS_some fpsOk disj unord range' dropTo enumT undef wrap_i64_id Value.cells mkCells ptrTo scal cellsAt rdN endS_ret resultsA Option.bind_some tupV finish reachN dep ptrL_eq ptrL renL_eq renL ptrV_bool ptrV_int ptrV_string ptrV_nilFunc ptrV_nilIface ptrV_nilPtr ptrV_ptr ptrV_nilSl ptrV_sl ptrV_iface ptrV_agg ptrV_tuple ptrV_func renV_bool renV_int renV_string renV_nilFunc renV_nilIface renV_nilPtr renV_ptr renV_nilSl renV_sl renV_iface renV_agg renV_tuple renV_func gotoS_goto gotoS_normal gotoS_exit gotoS_ret skip_seq sliceE bnd bndHi intOf optOpd keepT_nil keepT_cons keepC_t keepC_f lk_nil lk_cons lkC_t lkC_f has_nil has_cons hasC_t hasC_f rep_nil rep_cons repC_t repC_f put_eq putC_t putC_f mem_nil mem_cons memC_t memC_f idx_nil idx_cons idxC_t idxC_f reach_nil reachP_cons reachQ_t reachQ_f ptrB_dead renB_dead ins_eq
attribute [local simp] n29_1s n29_4s n29_6s n29_9s n29_10s n29_8s n29_11s n29_7s n29_5s n29_3s n29_13s n29_15s n29_17s n29_19s n29_22s n29_26s n29_29s n29_30s n29_28s n29_34s n29_36s n29_37s n29_35s n29_33s n29_32s n29_38s n29_31s n29_27s n29_25s n29_24s n29_24g n29_23s n29_21s n29_41s n29_43s n29_46s n29_48s n29_49s n29_47s n29_45s n29_50s n29_44s n29_42s n29_40s n29_52s n29_53s n29_51s n29_39s n29_20s n29_18s n29_16s n29_14s n29_12s n29_2s n29_0s Try.f29
theorem rtC_set {u v : Int} : ∀ (L : List (Int × Int)) (j : Nat), (∃ w, L[j]? = some (u, w)) → (rtC L).set (j * 2 + 1) (iv v) = rtC (L.set j (u, v)) := by
  intro L
  induction L with
  | nil => intro j h; obtain ⟨w, h⟩ := h; simp at h
  | cons a L ih =>
    intro j h
    obtain ⟨w, h⟩ := h
    cases j with
    | zero => simp at h; subst h; simp [rtC]
    | succ j =>
      have i := ih j ⟨w, by simpa using h⟩
      have e : rtC (a :: L) = iv a.1 :: iv a.2 :: rtC L := rfl
      rw [e, show (j + 1) * 2 + 1 = (j * 2 + 1) + 1 + 1 by omega]
      simp only [List.set_cons_succ, i]
      rfl
theorem vAt_le4 {p : List Int} {x y : Int} (hB : stuB p = true) : vAt (stu p) x y ≤ 4 := by
  have h : (stu p).length ≤ 4 := by rcases stu_cases hB with ⟨q1, q2, hq⟩ | ⟨q1, q2, q3, hq⟩ | ⟨q1, q2, q3, q4, hq⟩ <;> rw [hq] <;> simp
  have := chN_le ((stu p).map fun q => sgP q x y) 0 0
  rw [List.length_map] at this
  unfold vAt; omega
def moreK (p : List Int) : Int := (vAt (stu p) (-52) 1 : Int) - (vAt (stu p) (-((cor (corG p)).getD 0 0)) ((cor (corG p)).getD 1 0) : Nat)
/-- the roots, as they are found -/
def rootsF (p : List Int) : List (Int × Int) := (fun L => bif Nat.ble 2 (corG p).length then L.set ((moreK p).toNat - 1) ((L.getD ((moreK p).toNat - 1) (0, 0)).1, ((corG p).length : Int)) else L) (rtsF (stu p) (upV (stu p) 10400).toNat 0 [])
/-- what Roots wants -/
structure RtB (p : List Int) : Prop where
  re : chkE p = 0
  rs : stuB p = true
  rv : evA (stu p) (-52) 1 = true
  rn : ∀ n : Nat, n ≤ 10400 → evA (stu p) ((n : Int) - 5200) 100 = true
  rc : 0 ≤ upV (stu p) 10400
  rm : 1 < (corG p).length → corB (corG p) = true ∧ 2 ≤ (cor (corG p)).length ∧ evA (stu p) (-((cor (corG p)).getD 0 0)) ((cor (corG p)).getD 1 0) = true ∧ 1 ≤ moreK p ∧ moreK p ≤ upV (stu p) 10400
section
variable {p1 p2 : List Int} (hE : evA [p1, p2] (-52) 1 = true)
include hE
theorem h56w_2 (n : Nat) (hn : n ≤ 10400) (hN : evA [p1, p2] ((n : Int) - 5200) 100 = true) (Z : Blk) (rest : List Blk) : callH LL 56 [iv n, pp 4, pp 5] (Z :: .cells [sl 2 0 p1.length p1.length, sl 3 0 p2.length p2.length] 1 false true :: zB p1 :: zB p2 :: bxP 1 2 2 :: bxR (-52) 1 :: rest) =
    some ⟨iv (upV [p1, p2] n), Z :: .cells [sl 2 0 p1.length p1.length, sl 3 0 p2.length p2.length] 1 false true :: zB p1 :: zB p2 :: bxP 1 2 2 :: bxR (-52) 1 :: rest, [4, 1, 2, 3, 5], []⟩ := by
  obtain ⟨e1, f1, g1⟩ := evA_mem hE (q := p1) (by simp)
  obtain ⟨e2, f2, g2⟩ := evA_mem hE (q := p2) (by simp)
  obtain ⟨e1b, f1b, g1b⟩ := evA_mem hN (q := p1) (by simp)
  obtain ⟨e2b, f2b, g2b⟩ := evA_mem hN (q := p2) (by simp)
  have e := r56_2 2 p1.length p2.length (own1 := true) (own2 := true) PoC_zm f1 g1 PoC_zm f2 g2 n hn e1 e2 e1b e2b
  rw [show ((chN [sgP p1 (-52) 1, sgP p2 (-52) 1] 0 0 : Nat) : Int) - (chN [sgP p1 ((n : Int) - 5200) 100, sgP p2 ((n : Int) - 5200) 100] 0 0 : Nat) = upV [p1, p2] n from rfl] at e
  generalize upV [p1, p2] n = B at *
  simp only [zB]
  have hm : ∀ q : Nat, 30 < q → reach (Z :: .cells [sl 2 0 p1.length p1.length, sl 3 0 p2.length p2.length] 1 false true :: .cells (zm p1) 1 true true :: .cells (zm p2) 1 true true :: bxP 1 2 2 :: bxR (-52) 1 :: rest) 0 q [4, 5] [] = [4, 1, 2, 3, 5] := by
    intro q hq
    obtain ⟨q, rfl⟩ : ∃ j, q = j + 30 := ⟨q - 30, by omega⟩
    simp [reach_cons, reachC_t, reachC_f, reach_nil, rootsB, GE.mem, nblt, nbeq, ptrB, ptrT, ptrV_ptr, ptrV_sl, ptrV_int, ptrV_func, ptrFn, ptrL, dep]
  have hpp : ([iv n, pp 4, pp 5] : List Value).flatMap (ptrV dep) = [4, 5] := rfl
  refine callH_of (by intro _; first | trivial | rfl) ?_ (by simp)
  unfold callH0
  simp only [hpp, hm reachN (by decide)]
  simp [optAll, renV_func, renFn, renL, renV_ptr, renV_agg, dep, idx, nbeq, renB, renT, renL_eq, renV_int, renV_sl, e, mergeB, renV_tuple, renV_bool, nblt]
theorem h52E_2 (x y : Int) (hN : evA [p1, p2] x y = true) (Z Z1 : Blk) (rest : List Blk) : callH LL 52 [sl 2 0 2 2, .agg #[iv (-52), iv 1], .agg #[iv x, iv y]] (Z :: Z1 :: .cells [sl 3 0 p1.length p1.length, sl 4 0 p2.length p2.length] 1 false true :: zB p1 :: zB p2 :: rest) =
    some ⟨iv ((vAt [p1, p2] (-52) 1 : Int) - (vAt [p1, p2] x y : Nat)), Z :: Z1 :: .cells [sl 3 0 p1.length p1.length, sl 4 0 p2.length p2.length] 1 false true :: zB p1 :: zB p2 :: rest, [2, 3, 4], []⟩ := by
  obtain ⟨e1, f1, g1⟩ := evA_mem hE (q := p1) (by simp)
  obtain ⟨e2, f2, g2⟩ := evA_mem hE (q := p2) (by simp)
  obtain ⟨e1b, f1b, g1b⟩ := evA_mem hN (q := p1) (by simp)
  obtain ⟨e2b, f2b, g2b⟩ := evA_mem hN (q := p2) (by simp)
  have e := r52_2 2 p1.length p2.length (own1 := true) (own2 := true) PoC_zm f1 g1 PoC_zm f2 g2 (-52) 1 x y e1 e2 e1b e2b
  rw [show chN [sgP p1 (-52) 1, sgP p2 (-52) 1] 0 0 = vAt [p1, p2] (-52) 1 from rfl, show chN [sgP p1 x y, sgP p2 x y] 0 0 = vAt [p1, p2] x y from rfl] at e
  generalize vAt [p1, p2] (-52) 1 = B at *
  generalize vAt [p1, p2] x y = B2 at *
  simp only [zB]
  have hm : ∀ q : Nat, 30 < q → reach (Z :: Z1 :: .cells [sl 3 0 p1.length p1.length, sl 4 0 p2.length p2.length] 1 false true :: .cells (zm p1) 1 true true :: .cells (zm p2) 1 true true :: rest) 0 q [2] [] = [2, 3, 4] := by
    intro q hq
    obtain ⟨q, rfl⟩ : ∃ j, q = j + 30 := ⟨q - 30, by omega⟩
    simp [reach_cons, reachC_t, reachC_f, reach_nil, rootsB, GE.mem, nblt, nbeq, ptrB, ptrT, ptrV_ptr, ptrV_sl, ptrV_int, ptrV_func, ptrFn, ptrL, dep]
  have hpp : ([sl 2 0 2 2, .agg #[iv (-52), iv 1], .agg #[iv x, iv y]] : List Value).flatMap (ptrV dep) = [2] := rfl
  refine callH_of (by intro _; first | trivial | rfl) ?_ (by simp)
  unfold callH0
  simp only [hpp, hm reachN (by decide)]
  simp [optAll, renV_func, renFn, renL, renV_ptr, renV_agg, dep, idx, nbeq, renB, renT, renL_eq, renV_int, renV_sl, e, mergeB, renV_tuple, renV_bool, nblt]
end
section
variable {p1 p2 p3 : List Int} (hE : evA [p1, p2, p3] (-52) 1 = true)
include hE
theorem h56w_3 (n : Nat) (hn : n ≤ 10400) (hN : evA [p1, p2, p3] ((n : Int) - 5200) 100 = true) (Z : Blk) (rest : List Blk) : callH LL 56 [iv n, pp 5, pp 6] (Z :: .cells [sl 2 0 p1.length p1.length, sl 3 0 p2.length p2.length, sl 4 0 p3.length p3.length] 1 false true :: zB p1 :: zB p2 :: zB p3 :: bxP 1 3 3 :: bxR (-52) 1 :: rest) =
    some ⟨iv (upV [p1, p2, p3] n), Z :: .cells [sl 2 0 p1.length p1.length, sl 3 0 p2.length p2.length, sl 4 0 p3.length p3.length] 1 false true :: zB p1 :: zB p2 :: zB p3 :: bxP 1 3 3 :: bxR (-52) 1 :: rest, [5, 1, 2, 3, 4, 6], []⟩ := by
  obtain ⟨e1, f1, g1⟩ := evA_mem hE (q := p1) (by simp)
  obtain ⟨e2, f2, g2⟩ := evA_mem hE (q := p2) (by simp)
  obtain ⟨e3, f3, g3⟩ := evA_mem hE (q := p3) (by simp)
  obtain ⟨e1b, f1b, g1b⟩ := evA_mem hN (q := p1) (by simp)
  obtain ⟨e2b, f2b, g2b⟩ := evA_mem hN (q := p2) (by simp)
  obtain ⟨e3b, f3b, g3b⟩ := evA_mem hN (q := p3) (by simp)
  have e := r56_3 3 p1.length p2.length p3.length (own1 := true) (own2 := true) (own3 := true) PoC_zm f1 g1 PoC_zm f2 g2 PoC_zm f3 g3 n hn e1 e2 e3 e1b e2b e3b
  rw [show ((chN [sgP p1 (-52) 1, sgP p2 (-52) 1, sgP p3 (-52) 1] 0 0 : Nat) : Int) - (chN [sgP p1 ((n : Int) - 5200) 100, sgP p2 ((n : Int) - 5200) 100, sgP p3 ((n : Int) - 5200) 100] 0 0 : Nat) = upV [p1, p2, p3] n from rfl] at e
  generalize upV [p1, p2, p3] n = B at *
  simp only [zB]
  have hm : ∀ q : Nat, 30 < q → reach (Z :: .cells [sl 2 0 p1.length p1.length, sl 3 0 p2.length p2.length, sl 4 0 p3.length p3.length] 1 false true :: .cells (zm p1) 1 true true :: .cells (zm p2) 1 true true :: .cells (zm p3) 1 true true :: bxP 1 3 3 :: bxR (-52) 1 :: rest) 0 q [5, 6] [] = [5, 1, 2, 3, 4, 6] := by
    intro q hq
    obtain ⟨q, rfl⟩ : ∃ j, q = j + 30 := ⟨q - 30, by omega⟩
    simp [reach_cons, reachC_t, reachC_f, reach_nil, rootsB, GE.mem, nblt, nbeq, ptrB, ptrT, ptrV_ptr, ptrV_sl, ptrV_int, ptrV_func, ptrFn, ptrL, dep]
  have hpp : ([iv n, pp 5, pp 6] : List Value).flatMap (ptrV dep) = [5, 6] := rfl
  refine callH_of (by intro _; first | trivial | rfl) ?_ (by simp)
  unfold callH0
  simp only [hpp, hm reachN (by decide)]
  simp [optAll, renV_func, renFn, renL, renV_ptr, renV_agg, dep, idx, nbeq, renB, renT, renL_eq, renV_int, renV_sl, e, mergeB, renV_tuple, renV_bool, nblt]
theorem h52E_3 (x y : Int) (hN : evA [p1, p2, p3] x y = true) (Z Z1 : Blk) (rest : List Blk) : callH LL 52 [sl 2 0 3 3, .agg #[iv (-52), iv 1], .agg #[iv x, iv y]] (Z :: Z1 :: .cells [sl 3 0 p1.length p1.length, sl 4 0 p2.length p2.length, sl 5 0 p3.length p3.length] 1 false true :: zB p1 :: zB p2 :: zB p3 :: rest) =
    some ⟨iv ((vAt [p1, p2, p3] (-52) 1 : Int) - (vAt [p1, p2, p3] x y : Nat)), Z :: Z1 :: .cells [sl 3 0 p1.length p1.length, sl 4 0 p2.length p2.length, sl 5 0 p3.length p3.length] 1 false true :: zB p1 :: zB p2 :: zB p3 :: rest, [2, 3, 4, 5], []⟩ := by
  obtain ⟨e1, f1, g1⟩ := evA_mem hE (q := p1) (by simp)
  obtain ⟨e2, f2, g2⟩ := evA_mem hE (q := p2) (by simp)
  obtain ⟨e3, f3, g3⟩ := evA_mem hE (q := p3) (by simp)
  obtain ⟨e1b, f1b, g1b⟩ := evA_mem hN (q := p1) (by simp)
  obtain ⟨e2b, f2b, g2b⟩ := evA_mem hN (q := p2) (by simp)
  obtain ⟨e3b, f3b, g3b⟩ := evA_mem hN (q := p3) (by simp)
  have e := r52_3 3 p1.length p2.length p3.length (own1 := true) (own2 := true) (own3 := true) PoC_zm f1 g1 PoC_zm f2 g2 PoC_zm f3 g3 (-52) 1 x y e1 e2 e3 e1b e2b e3b
  rw [show chN [sgP p1 (-52) 1, sgP p2 (-52) 1, sgP p3 (-52) 1] 0 0 = vAt [p1, p2, p3] (-52) 1 from rfl, show chN [sgP p1 x y, sgP p2 x y, sgP p3 x y] 0 0 = vAt [p1, p2, p3] x y from rfl] at e
  generalize vAt [p1, p2, p3] (-52) 1 = B at *
  generalize vAt [p1, p2, p3] x y = B2 at *
  simp only [zB]
  have hm : ∀ q : Nat, 30 < q → reach (Z :: Z1 :: .cells [sl 3 0 p1.length p1.length, sl 4 0 p2.length p2.length, sl 5 0 p3.length p3.length] 1 false true :: .cells (zm p1) 1 true true :: .cells (zm p2) 1 true true :: .cells (zm p3) 1 true true :: rest) 0 q [2] [] = [2, 3, 4, 5] := by
    intro q hq
    obtain ⟨q, rfl⟩ : ∃ j, q = j + 30 := ⟨q - 30, by omega⟩
    simp [reach_cons, reachC_t, reachC_f, reach_nil, rootsB, GE.mem, nblt, nbeq, ptrB, ptrT, ptrV_ptr, ptrV_sl, ptrV_int, ptrV_func, ptrFn, ptrL, dep]
  have hpp : ([sl 2 0 3 3, .agg #[iv (-52), iv 1], .agg #[iv x, iv y]] : List Value).flatMap (ptrV dep) = [2] := rfl
  refine callH_of (by intro _; first | trivial | rfl) ?_ (by simp)
  unfold callH0
  simp only [hpp, hm reachN (by decide)]
  simp [optAll, renV_func, renFn, renL, renV_ptr, renV_agg, dep, idx, nbeq, renB, renT, renL_eq, renV_int, renV_sl, e, mergeB, renV_tuple, renV_bool, nblt]
end
section
variable {p1 p2 p3 p4 : List Int} (hE : evA [p1, p2, p3, p4] (-52) 1 = true)
include hE
theorem h56w_4 (n : Nat) (hn : n ≤ 10400) (hN : evA [p1, p2, p3, p4] ((n : Int) - 5200) 100 = true) (Z : Blk) (rest : List Blk) : callH LL 56 [iv n, pp 6, pp 7] (Z :: .cells [sl 2 0 p1.length p1.length, sl 3 0 p2.length p2.length, sl 4 0 p3.length p3.length, sl 5 0 p4.length p4.length] 1 false true :: zB p1 :: zB p2 :: zB p3 :: zB p4 :: bxP 1 4 4 :: bxR (-52) 1 :: rest) =
    some ⟨iv (upV [p1, p2, p3, p4] n), Z :: .cells [sl 2 0 p1.length p1.length, sl 3 0 p2.length p2.length, sl 4 0 p3.length p3.length, sl 5 0 p4.length p4.length] 1 false true :: zB p1 :: zB p2 :: zB p3 :: zB p4 :: bxP 1 4 4 :: bxR (-52) 1 :: rest, [6, 1, 2, 3, 4, 5, 7], []⟩ := by
  obtain ⟨e1, f1, g1⟩ := evA_mem hE (q := p1) (by simp)
  obtain ⟨e2, f2, g2⟩ := evA_mem hE (q := p2) (by simp)
  obtain ⟨e3, f3, g3⟩ := evA_mem hE (q := p3) (by simp)
  obtain ⟨e4, f4, g4⟩ := evA_mem hE (q := p4) (by simp)
  obtain ⟨e1b, f1b, g1b⟩ := evA_mem hN (q := p1) (by simp)
  obtain ⟨e2b, f2b, g2b⟩ := evA_mem hN (q := p2) (by simp)
  obtain ⟨e3b, f3b, g3b⟩ := evA_mem hN (q := p3) (by simp)
  obtain ⟨e4b, f4b, g4b⟩ := evA_mem hN (q := p4) (by simp)
  have e := r56_4 4 p1.length p2.length p3.length p4.length (own1 := true) (own2 := true) (own3 := true) (own4 := true) PoC_zm f1 g1 PoC_zm f2 g2 PoC_zm f3 g3 PoC_zm f4 g4 n hn e1 e2 e3 e4 e1b e2b e3b e4b
  rw [show ((chN [sgP p1 (-52) 1, sgP p2 (-52) 1, sgP p3 (-52) 1, sgP p4 (-52) 1] 0 0 : Nat) : Int) - (chN [sgP p1 ((n : Int) - 5200) 100, sgP p2 ((n : Int) - 5200) 100, sgP p3 ((n : Int) - 5200) 100, sgP p4 ((n : Int) - 5200) 100] 0 0 : Nat) = upV [p1, p2, p3, p4] n from rfl] at e
  generalize upV [p1, p2, p3, p4] n = B at *
  simp only [zB]
  have hm : ∀ q : Nat, 30 < q → reach (Z :: .cells [sl 2 0 p1.length p1.length, sl 3 0 p2.length p2.length, sl 4 0 p3.length p3.length, sl 5 0 p4.length p4.length] 1 false true :: .cells (zm p1) 1 true true :: .cells (zm p2) 1 true true :: .cells (zm p3) 1 true true :: .cells (zm p4) 1 true true :: bxP 1 4 4 :: bxR (-52) 1 :: rest) 0 q [6, 7] [] = [6, 1, 2, 3, 4, 5, 7] := by
    intro q hq
    obtain ⟨q, rfl⟩ : ∃ j, q = j + 30 := ⟨q - 30, by omega⟩
    simp [reach_cons, reachC_t, reachC_f, reach_nil, rootsB, GE.mem, nblt, nbeq, ptrB, ptrT, ptrV_ptr, ptrV_sl, ptrV_int, ptrV_func, ptrFn, ptrL, dep]
  have hpp : ([iv n, pp 6, pp 7] : List Value).flatMap (ptrV dep) = [6, 7] := rfl
  refine callH_of (by intro _; first | trivial | rfl) ?_ (by simp)
  unfold callH0
  simp only [hpp, hm reachN (by decide)]
  simp [optAll, renV_func, renFn, renL, renV_ptr, renV_agg, dep, idx, nbeq, renB, renT, renL_eq, renV_int, renV_sl, e, mergeB, renV_tuple, renV_bool, nblt]
theorem h52E_4 (x y : Int) (hN : evA [p1, p2, p3, p4] x y = true) (Z Z1 : Blk) (rest : List Blk) : callH LL 52 [sl 2 0 4 4, .agg #[iv (-52), iv 1], .agg #[iv x, iv y]] (Z :: Z1 :: .cells [sl 3 0 p1.length p1.length, sl 4 0 p2.length p2.length, sl 5 0 p3.length p3.length, sl 6 0 p4.length p4.length] 1 false true :: zB p1 :: zB p2 :: zB p3 :: zB p4 :: rest) =
    some ⟨iv ((vAt [p1, p2, p3, p4] (-52) 1 : Int) - (vAt [p1, p2, p3, p4] x y : Nat)), Z :: Z1 :: .cells [sl 3 0 p1.length p1.length, sl 4 0 p2.length p2.length, sl 5 0 p3.length p3.length, sl 6 0 p4.length p4.length] 1 false true :: zB p1 :: zB p2 :: zB p3 :: zB p4 :: rest, [2, 3, 4, 5, 6], []⟩ := by
  obtain ⟨e1, f1, g1⟩ := evA_mem hE (q := p1) (by simp)
  obtain ⟨e2, f2, g2⟩ := evA_mem hE (q := p2) (by simp)
  obtain ⟨e3, f3, g3⟩ := evA_mem hE (q := p3) (by simp)
  obtain ⟨e4, f4, g4⟩ := evA_mem hE (q := p4) (by simp)
  obtain ⟨e1b, f1b, g1b⟩ := evA_mem hN (q := p1) (by simp)
  obtain ⟨e2b, f2b, g2b⟩ := evA_mem hN (q := p2) (by simp)
  obtain ⟨e3b, f3b, g3b⟩ := evA_mem hN (q := p3) (by simp)
  obtain ⟨e4b, f4b, g4b⟩ := evA_mem hN (q := p4) (by simp)
  have e := r52_4 4 p1.length p2.length p3.length p4.length (own1 := true) (own2 := true) (own3 := true) (own4 := true) PoC_zm f1 g1 PoC_zm f2 g2 PoC_zm f3 g3 PoC_zm f4 g4 (-52) 1 x y e1 e2 e3 e4 e1b e2b e3b e4b
  rw [show chN [sgP p1 (-52) 1, sgP p2 (-52) 1, sgP p3 (-52) 1, sgP p4 (-52) 1] 0 0 = vAt [p1, p2, p3, p4] (-52) 1 from rfl, show chN [sgP p1 x y, sgP p2 x y, sgP p3 x y, sgP p4 x y] 0 0 = vAt [p1, p2, p3, p4] x y from rfl] at e
  generalize vAt [p1, p2, p3, p4] (-52) 1 = B at *
  generalize vAt [p1, p2, p3, p4] x y = B2 at *
  simp only [zB]
  have hm : ∀ q : Nat, 30 < q → reach (Z :: Z1 :: .cells [sl 3 0 p1.length p1.length, sl 4 0 p2.length p2.length, sl 5 0 p3.length p3.length, sl 6 0 p4.length p4.length] 1 false true :: .cells (zm p1) 1 true true :: .cells (zm p2) 1 true true :: .cells (zm p3) 1 true true :: .cells (zm p4) 1 true true :: rest) 0 q [2] [] = [2, 3, 4, 5, 6] := by
    intro q hq
    obtain ⟨q, rfl⟩ : ∃ j, q = j + 30 := ⟨q - 30, by omega⟩
    simp [reach_cons, reachC_t, reachC_f, reach_nil, rootsB, GE.mem, nblt, nbeq, ptrB, ptrT, ptrV_ptr, ptrV_sl, ptrV_int, ptrV_func, ptrFn, ptrL, dep]
  have hpp : ([sl 2 0 4 4, .agg #[iv (-52), iv 1], .agg #[iv x, iv y]] : List Value).flatMap (ptrV dep) = [2] := rfl
  refine callH_of (by intro _; first | trivial | rfl) ?_ (by simp)
  unfold callH0
  simp only [hpp, hm reachN (by decide)]
  simp [optAll, renV_func, renFn, renL, renV_ptr, renV_agg, dep, idx, nbeq, renB, renT, renL_eq, renV_int, renV_sl, e, mergeB, renV_tuple, renV_bool, nblt]
end
section
variable (b c : Nat) {cs : List Value} {own : Bool} {p : List Int} {h : List Blk} (hb : h[b]? = some (.cells cs 1 true own)) (hp : PoC cs p)
include hb hp
theorem k29 (hl : p.length ≤ 60) (H : RtB p) : callH LL 29 [sl b 0 p.length c] h = some ⟨.tuple #[sl h.length 0 (rootsF p).length (rootsF p).length, iv 0], h ++ [rtB (rootsF p)], [b], []⟩ := by
  refine callN_1 rfl hb noIdB_flat (args' := [sl 0 0 p.length c]) (by simp [renV, dep, optAll, idx, nbeq]) (v := .tuple #[sl 1 0 (rootsF p).length (rootsF p).length, iv 0]) (news := [rtB (rootsF p)]) (go (by decide) ?_) (by intro blk hb; simp only [List.mem_singleton] at hb; subst hb; exact noIdB_flat) (by simp [renV, dep, optAll])
  have a21 := fun R => k21 0 c (h := .cells cs 1 true own :: R) rfl hp (by omega)
  have a43 := k43 0 c (h := [.cells cs 1 true own]) rfl hp H.rs
  rw [H.re] at a21
  have hs := H.rs
  unfold stuB at hs
  simp only [Bool.and_eq_true] at hs
  have hcb := hs.1.1.1.1
  have hcb' := hcb
  unfold corB at hcb'
  simp only [Bool.and_eq_true] at hcb'
  obtain ⟨⟨⟨⟨⟨⟨⟨⟨⟨⟨c1, c2⟩, c3⟩, c4⟩, c5⟩, c6⟩, c7⟩, c8⟩, c9⟩, c10⟩, c11⟩ := hcb'
  have c1 := Nat.le_of_ble_eq_true c1
  have c2 := Nat.le_of_ble_eq_true c2
  have c6 := Nat.le_of_ble_eq_true c6
  have c7 := Nat.le_of_ble_eq_true c7
  have a54 := fun R => k54 0 c (p := p) (h := .cells cs 1 true own :: R) rfl hp (by omega) (by omega) (sm_slp c4)
  obtain ⟨cnt, hcnt⟩ : ∃ cnt : Nat, upV (stu p) 10400 = (cnt : Int) := ⟨(upV (stu p) 10400).toNat, by have := H.rc; omega⟩
  have hc4 : cnt ≤ 4 := by
    have := vAt_le4 (x := (-52)) (y := 1) H.rs
    unfold upV at hcnt
    omega
  have hct : (upV (stu p) 10400).toNat = cnt := by omega
  have hrv := H.rv
  have hrn := H.rn
  have hrm := H.rm
  unfold rootsF
  rw [hct]
  have rl := rtsF_len (S := stu p) cnt 0 []
  simp only [List.length_nil, Nat.zero_add] at rl
  rcases stu_cases H.rs with ⟨q1, q2, hq⟩ | ⟨q1, q2, q3, hq⟩ | ⟨q1, q2, q3, q4, hq⟩
  · have mk : moreK p = (vAt [q1, q2] (-52) 1 : Int) - (vAt [q1, q2] (-((cor (corG p)).getD 0 0)) ((cor (corG p)).getD 1 0) : Nat) := by unfold moreK; rw [hq]
    rw [hq] at a43 hrv hrn hrm hcnt rl ⊢
    have a59 := fun (z1 z2 z3 z4 z5 z6 : Blk) (R : List Blk) => k59 5 p (slp p) 0 7 c (p.length - 1) cs (zm (slp p)) own true (.cells cs 1 true own :: z1 :: z2 :: z3 :: z4 :: z5 :: z6 :: zB (slp p) :: R) rfl rfl (by decide) hp PoC_zm (by omega) (by rw [slp_len]; omega) c5
    rw [slp_len] at a59
    rw [show cmn 5 p (slp p) = corG p from rfl] at a59
    have lp := l29_2 hrv hrn (cs := cs) (own := own) p.length c cnt (by omega) cnt 0 [] (by omega) rfl
    have a56 := fun Z R => h56w_2 hrv 10400 (by omega) (hrn 10400 (by omega)) Z R
    rw [hcnt, show ((10400 : Nat) : Int) = 10400 from rfl] at a56
    simp only [rtB, List.length_nil, Int.natCast_zero, show rtC [] = [] from rfl] at lp
    simp only [stBk, stC, zB, List.map_cons, List.map_nil, List.length_cons, List.length_nil, Nat.reduceAdd, List.cons_append, List.nil_append] at a43
    rw [rl] at lp
    generalize rtsF [q1, q2] cnt 0 [] = L at *
    by_cases h1 : 1 < (corG p).length
    · obtain ⟨m1, m2, m3, m4, m5⟩ := hrm h1
      have eb : Nat.ble 2 (corG p).length = true := by rw [Nat.ble_eq]; omega
      rw [eb]
      simp only [cond_true]
      have hm1 : ((moreK p).toNat : Int) = moreK p := by omega
      have a52 := fun Z Z1 R => h52E_2 hrv _ _ m3 Z Z1 R
      rw [← mk] at a52
      rw [hcnt] at m5
      obtain ⟨j, hj⟩ : ∃ j : Nat, moreK p = (j : Int) + 1 := ⟨(moreK p).toNat - 1, by omega⟩
      have hj2 : (moreK p).toNat - 1 = j := by omega
      rw [hj2]
      have hjc : j < cnt := by omega
      rw [hj] at a52
      have hset := rtC_set (u := (L.getD j (0, 0)).1) (v := ((corG p).length : Int)) L j ⟨(L.getD j (0, 0)).2, by rw [List.getD_eq_getElem?_getD, List.getElem?_eq_getElem (by omega)]; rfl⟩
      have cl2 := rtC_len (L := L)
      rw [rl] at cl2
      have hgl : (corG p).length ≤ 60 := by omega
      have a41 := fun (z0 z1 z2 z3 z4 z5 z6 z7 : Blk) (R : List Blk) => k41 8 (corG p).length (p := corG p) (h := z0 :: z1 :: z2 :: z3 :: z4 :: z5 :: z6 :: z7 :: zB (corG p) :: R) rfl PoC_zm m1
      have w0 := allB_get (L := cor (corG p)) (by unfold corB at m1; simp only [Bool.and_eq_true] at m1; exact m1.2) (i := 0) (by omega)
      have g0 := zm_get (L := cor (corG p)) (i := 0) (by omega)
      have g1 := zm_get (L := cor (corG p)) (i := 1) (by omega)
      have zl := zm_len (L := cor (corG p))
      have g0' : ∀ h, (zm (cor (corG p)))[0]'h = iv ((cor (corG p)).getD 0 0) := fun h => by rw [List.getElem?_eq_getElem h] at g0; exact Option.some.inj g0
      have g1' : ∀ h, (zm (cor (corG p)))[1]'h = iv ((cor (corG p)).getD 1 0) := fun h => by rw [List.getElem?_eq_getElem h] at g1; exact Option.some.inj g1
      have w0' : IntKind.i64.wrap (-((cor (corG p)).getD 0 0)) = -((cor (corG p)).getD 0 0) := wrap_i64_id (by omega) (by omega)
      have k0 : 0 < (cor (corG p)).length := by omega
      have k1 : 1 < (cor (corG p)).length := by omega
      have k0' : (0 : Int) < (cor (corG p)).length := by omega
      have k1' : (1 : Int) < (cor (corG p)).length := by omega
      have h1' : (1 : Int) < (corG p).length := by omega
      have jl : (j : Int) < cnt := by omega
      have jj : IntKind.i64.wrap ((j : Int) + 1 - 1) = j := by rw [Int.add_sub_cancel]; exact wrap_i64_id (by omega) (by omega)
      have jj2 : (j : Int) + 1 - 1 = j := by omega
      have jw : IntKind.i64.wrap (j : Int) = j := wrap_i64_id (by omega) (by omega)
      have jt : j * 2 + 1 < cnt * 2 := by omega
      rw [show (L.set j ((L.getD j (0, 0)).1, ((corG p).length : Int))).length = cnt by rw [List.length_set]; exact rl]
      simp only [rtB]
      rw [← hset]
      clear m1 m2 m3 m4 m5 hcb hs c3 c4 c5 c8 c9 c10 c11 hrv hrn hrm H hcnt hct mk hj hj2 hset eb hm1 rl hc4
      generalize moreK p = mk' at *
      simp only [zB] at a54 a59 a41 a52 a56 lp ⊢
      generalize (cor (corG p)).getD 0 0 = x0 at *
      generalize (cor (corG p)).getD 1 0 = x1 at *
      generalize zm (cor (corG p)) = C2 at *
      generalize (cor (corG p)).length = c2l at *
      generalize zm (corG p) = G2 at *
      generalize (corG p).length = gl at *
      generalize zm (slp p) = S2 at *
      generalize rtC L = X at *
      generalize zm q1 = M1 at *
      generalize zm q2 = M2 at *
      rw [run29 _ _ _ (by simp)]
      simp (maxSteps := 1000000) (disch := first | omega | decide | assumption | simp [scal]) [za_76, sz_76, za_24, o_build za_24 pl_24, sz_24, za_90, sz_90, loadA_eq ia_90, za_3, sz_3, za_48, o_build za_48 pl_48, o_indexAddrS es_40, ze_40, o_buildSlice es_40 ze_40 (by decide) ba_40_1, ap_40, builtin_append ni_40, lenA_sl lk_71, loadA_eq ia_76, loadA_eq ia_24, o_indexAddrS es_71, loadA_eq ia_3, o_fieldAddr fa_48_1 (by decide), a21, a43, a56, lp, a54, a59, a41, a52, g0, g1, g0', g1', zl, w0', k0, k1, k0', k1', h1, h1', jl, jj, jj2, jw, jt, hjc, cl2]
    · have eb : Nat.ble 2 (corG p).length = false := by rw [Bool.eq_false_iff]; intro h; have := Nat.le_of_ble_eq_true h; omega
      rw [eb]
      simp only [cond_false]
      rw [rl]
      have h1' : ¬ (1 : Int) < (corG p).length := by omega
      clear hcb hs c3 c4 c5 c8 c9 c10 c11 hrv hrn hrm H hcnt hct mk eb rl hc4
      simp only [rtB]
      simp only [zB] at a54 a59 a56 lp ⊢
      generalize zm (corG p) = G2 at *
      generalize (corG p).length = gl at *
      generalize zm (slp p) = S2 at *
      generalize rtC L = X at *
      generalize zm q1 = M1 at *
      generalize zm q2 = M2 at *
      rw [run29 _ _ _ (by simp)]
      simp (maxSteps := 1000000) (disch := first | omega | decide | assumption | simp [scal]) [za_76, sz_76, za_24, o_build za_24 pl_24, sz_24, za_90, sz_90, loadA_eq ia_90, za_3, sz_3, za_48, o_build za_48 pl_48, o_indexAddrS es_40, ze_40, o_buildSlice es_40 ze_40 (by decide) ba_40_1, ap_40, builtin_append ni_40, lenA_sl lk_71, loadA_eq ia_76, loadA_eq ia_24, o_indexAddrS es_71, loadA_eq ia_3, o_fieldAddr fa_48_1 (by decide), a21, a43, a56, lp, a54, a59, h1, h1']
  · have mk : moreK p = (vAt [q1, q2, q3] (-52) 1 : Int) - (vAt [q1, q2, q3] (-((cor (corG p)).getD 0 0)) ((cor (corG p)).getD 1 0) : Nat) := by unfold moreK; rw [hq]
    rw [hq] at a43 hrv hrn hrm hcnt rl ⊢
    have a59 := fun (z1 z2 z3 z4 z5 z6 z7 : Blk) (R : List Blk) => k59 5 p (slp p) 0 8 c (p.length - 1) cs (zm (slp p)) own true (.cells cs 1 true own :: z1 :: z2 :: z3 :: z4 :: z5 :: z6 :: z7 :: zB (slp p) :: R) rfl rfl (by decide) hp PoC_zm (by omega) (by rw [slp_len]; omega) c5
    rw [slp_len] at a59
    rw [show cmn 5 p (slp p) = corG p from rfl] at a59
    have lp := l29_3 hrv hrn (cs := cs) (own := own) p.length c cnt (by omega) cnt 0 [] (by omega) rfl
    have a56 := fun Z R => h56w_3 hrv 10400 (by omega) (hrn 10400 (by omega)) Z R
    rw [hcnt, show ((10400 : Nat) : Int) = 10400 from rfl] at a56
    simp only [rtB, List.length_nil, Int.natCast_zero, show rtC [] = [] from rfl] at lp
    simp only [stBk, stC, zB, List.map_cons, List.map_nil, List.length_cons, List.length_nil, Nat.reduceAdd, List.cons_append, List.nil_append] at a43
    rw [rl] at lp
    generalize rtsF [q1, q2, q3] cnt 0 [] = L at *
    by_cases h1 : 1 < (corG p).length
    · obtain ⟨m1, m2, m3, m4, m5⟩ := hrm h1
      have eb : Nat.ble 2 (corG p).length = true := by rw [Nat.ble_eq]; omega
      rw [eb]
      simp only [cond_true]
      have hm1 : ((moreK p).toNat : Int) = moreK p := by omega
      have a52 := fun Z Z1 R => h52E_3 hrv _ _ m3 Z Z1 R
      rw [← mk] at a52
      rw [hcnt] at m5
      obtain ⟨j, hj⟩ : ∃ j : Nat, moreK p = (j : Int) + 1 := ⟨(moreK p).toNat - 1, by omega⟩
      have hj2 : (moreK p).toNat - 1 = j := by omega
      rw [hj2]
      have hjc : j < cnt := by omega
      rw [hj] at a52
      have hset := rtC_set (u := (L.getD j (0, 0)).1) (v := ((corG p).length : Int)) L j ⟨(L.getD j (0, 0)).2, by rw [List.getD_eq_getElem?_getD, List.getElem?_eq_getElem (by omega)]; rfl⟩
      have cl2 := rtC_len (L := L)
      rw [rl] at cl2
      have hgl : (corG p).length ≤ 60 := by omega
      have a41 := fun (z0 z1 z2 z3 z4 z5 z6 z7 z8 : Blk) (R : List Blk) => k41 9 (corG p).length (p := corG p) (h := z0 :: z1 :: z2 :: z3 :: z4 :: z5 :: z6 :: z7 :: z8 :: zB (corG p) :: R) rfl PoC_zm m1
      have w0 := allB_get (L := cor (corG p)) (by unfold corB at m1; simp only [Bool.and_eq_true] at m1; exact m1.2) (i := 0) (by omega)
      have g0 := zm_get (L := cor (corG p)) (i := 0) (by omega)
      have g1 := zm_get (L := cor (corG p)) (i := 1) (by omega)
      have zl := zm_len (L := cor (corG p))
      have g0' : ∀ h, (zm (cor (corG p)))[0]'h = iv ((cor (corG p)).getD 0 0) := fun h => by rw [List.getElem?_eq_getElem h] at g0; exact Option.some.inj g0
      have g1' : ∀ h, (zm (cor (corG p)))[1]'h = iv ((cor (corG p)).getD 1 0) := fun h => by rw [List.getElem?_eq_getElem h] at g1; exact Option.some.inj g1
      have w0' : IntKind.i64.wrap (-((cor (corG p)).getD 0 0)) = -((cor (corG p)).getD 0 0) := wrap_i64_id (by omega) (by omega)
      have k0 : 0 < (cor (corG p)).length := by omega
      have k1 : 1 < (cor (corG p)).length := by omega
      have k0' : (0 : Int) < (cor (corG p)).length := by omega
      have k1' : (1 : Int) < (cor (corG p)).length := by omega
      have h1' : (1 : Int) < (corG p).length := by omega
      have jl : (j : Int) < cnt := by omega
      have jj : IntKind.i64.wrap ((j : Int) + 1 - 1) = j := by rw [Int.add_sub_cancel]; exact wrap_i64_id (by omega) (by omega)
      have jj2 : (j : Int) + 1 - 1 = j := by omega
      have jw : IntKind.i64.wrap (j : Int) = j := wrap_i64_id (by omega) (by omega)
      have jt : j * 2 + 1 < cnt * 2 := by omega
      rw [show (L.set j ((L.getD j (0, 0)).1, ((corG p).length : Int))).length = cnt by rw [List.length_set]; exact rl]
      simp only [rtB]
      rw [← hset]
      clear m1 m2 m3 m4 m5 hcb hs c3 c4 c5 c8 c9 c10 c11 hrv hrn hrm H hcnt hct mk hj hj2 hset eb hm1 rl hc4
      generalize moreK p = mk' at *
      simp only [zB] at a54 a59 a41 a52 a56 lp ⊢
      generalize (cor (corG p)).getD 0 0 = x0 at *
      generalize (cor (corG p)).getD 1 0 = x1 at *
      generalize zm (cor (corG p)) = C2 at *
      generalize (cor (corG p)).length = c2l at *
      generalize zm (corG p) = G2 at *
      generalize (corG p).length = gl at *
      generalize zm (slp p) = S2 at *
      generalize rtC L = X at *
      generalize zm q1 = M1 at *
      generalize zm q2 = M2 at *
      generalize zm q3 = M3 at *
      rw [run29 _ _ _ (by simp)]
      simp (maxSteps := 1000000) (disch := first | omega | decide | assumption | simp [scal]) [za_76, sz_76, za_24, o_build za_24 pl_24, sz_24, za_90, sz_90, loadA_eq ia_90, za_3, sz_3, za_48, o_build za_48 pl_48, o_indexAddrS es_40, ze_40, o_buildSlice es_40 ze_40 (by decide) ba_40_1, ap_40, builtin_append ni_40, lenA_sl lk_71, loadA_eq ia_76, loadA_eq ia_24, o_indexAddrS es_71, loadA_eq ia_3, o_fieldAddr fa_48_1 (by decide), a21, a43, a56, lp, a54, a59, a41, a52, g0, g1, g0', g1', zl, w0', k0, k1, k0', k1', h1, h1', jl, jj, jj2, jw, jt, hjc, cl2]
    · have eb : Nat.ble 2 (corG p).length = false := by rw [Bool.eq_false_iff]; intro h; have := Nat.le_of_ble_eq_true h; omega
      rw [eb]
      simp only [cond_false]
      rw [rl]
      have h1' : ¬ (1 : Int) < (corG p).length := by omega
      clear hcb hs c3 c4 c5 c8 c9 c10 c11 hrv hrn hrm H hcnt hct mk eb rl hc4
      simp only [rtB]
      simp only [zB] at a54 a59 a56 lp ⊢
      generalize zm (corG p) = G2 at *
      generalize (corG p).length = gl at *
      generalize zm (slp p) = S2 at *
      generalize rtC L = X at *
      generalize zm q1 = M1 at *
      generalize zm q2 = M2 at *
      generalize zm q3 = M3 at *
      rw [run29 _ _ _ (by simp)]
      simp (maxSteps := 1000000) (disch := first | omega | decide | assumption | simp [scal]) [za_76, sz_76, za_24, o_build za_24 pl_24, sz_24, za_90, sz_90, loadA_eq ia_90, za_3, sz_3, za_48, o_build za_48 pl_48, o_indexAddrS es_40, ze_40, o_buildSlice es_40 ze_40 (by decide) ba_40_1, ap_40, builtin_append ni_40, lenA_sl lk_71, loadA_eq ia_76, loadA_eq ia_24, o_indexAddrS es_71, loadA_eq ia_3, o_fieldAddr fa_48_1 (by decide), a21, a43, a56, lp, a54, a59, h1, h1']
  · have mk : moreK p = (vAt [q1, q2, q3, q4] (-52) 1 : Int) - (vAt [q1, q2, q3, q4] (-((cor (corG p)).getD 0 0)) ((cor (corG p)).getD 1 0) : Nat) := by unfold moreK; rw [hq]
    rw [hq] at a43 hrv hrn hrm hcnt rl ⊢
    have a59 := fun (z1 z2 z3 z4 z5 z6 z7 z8 : Blk) (R : List Blk) => k59 5 p (slp p) 0 9 c (p.length - 1) cs (zm (slp p)) own true (.cells cs 1 true own :: z1 :: z2 :: z3 :: z4 :: z5 :: z6 :: z7 :: z8 :: zB (slp p) :: R) rfl rfl (by decide) hp PoC_zm (by omega) (by rw [slp_len]; omega) c5
    rw [slp_len] at a59
    rw [show cmn 5 p (slp p) = corG p from rfl] at a59
    have lp := l29_4 hrv hrn (cs := cs) (own := own) p.length c cnt (by omega) cnt 0 [] (by omega) rfl
    have a56 := fun Z R => h56w_4 hrv 10400 (by omega) (hrn 10400 (by omega)) Z R
    rw [hcnt, show ((10400 : Nat) : Int) = 10400 from rfl] at a56
    simp only [rtB, List.length_nil, Int.natCast_zero, show rtC [] = [] from rfl] at lp
    simp only [stBk, stC, zB, List.map_cons, List.map_nil, List.length_cons, List.length_nil, Nat.reduceAdd, List.cons_append, List.nil_append] at a43
    rw [rl] at lp
    generalize rtsF [q1, q2, q3, q4] cnt 0 [] = L at *
    by_cases h1 : 1 < (corG p).length
    · obtain ⟨m1, m2, m3, m4, m5⟩ := hrm h1
      have eb : Nat.ble 2 (corG p).length = true := by rw [Nat.ble_eq]; omega
      rw [eb]
      simp only [cond_true]
      have hm1 : ((moreK p).toNat : Int) = moreK p := by omega
      have a52 := fun Z Z1 R => h52E_4 hrv _ _ m3 Z Z1 R
      rw [← mk] at a52
      rw [hcnt] at m5
      obtain ⟨j, hj⟩ : ∃ j : Nat, moreK p = (j : Int) + 1 := ⟨(moreK p).toNat - 1, by omega⟩
      have hj2 : (moreK p).toNat - 1 = j := by omega
      rw [hj2]
      have hjc : j < cnt := by omega
      rw [hj] at a52
      have hset := rtC_set (u := (L.getD j (0, 0)).1) (v := ((corG p).length : Int)) L j ⟨(L.getD j (0, 0)).2, by rw [List.getD_eq_getElem?_getD, List.getElem?_eq_getElem (by omega)]; rfl⟩
      have cl2 := rtC_len (L := L)
      rw [rl] at cl2
      have hgl : (corG p).length ≤ 60 := by omega
      have a41 := fun (z0 z1 z2 z3 z4 z5 z6 z7 z8 z9 : Blk) (R : List Blk) => k41 10 (corG p).length (p := corG p) (h := z0 :: z1 :: z2 :: z3 :: z4 :: z5 :: z6 :: z7 :: z8 :: z9 :: zB (corG p) :: R) rfl PoC_zm m1
      have w0 := allB_get (L := cor (corG p)) (by unfold corB at m1; simp only [Bool.and_eq_true] at m1; exact m1.2) (i := 0) (by omega)
      have g0 := zm_get (L := cor (corG p)) (i := 0) (by omega)
      have g1 := zm_get (L := cor (corG p)) (i := 1) (by omega)
      have zl := zm_len (L := cor (corG p))
      have g0' : ∀ h, (zm (cor (corG p)))[0]'h = iv ((cor (corG p)).getD 0 0) := fun h => by rw [List.getElem?_eq_getElem h] at g0; exact Option.some.inj g0
      have g1' : ∀ h, (zm (cor (corG p)))[1]'h = iv ((cor (corG p)).getD 1 0) := fun h => by rw [List.getElem?_eq_getElem h] at g1; exact Option.some.inj g1
      have w0' : IntKind.i64.wrap (-((cor (corG p)).getD 0 0)) = -((cor (corG p)).getD 0 0) := wrap_i64_id (by omega) (by omega)
      have k0 : 0 < (cor (corG p)).length := by omega
      have k1 : 1 < (cor (corG p)).length := by omega
      have k0' : (0 : Int) < (cor (corG p)).length := by omega
      have k1' : (1 : Int) < (cor (corG p)).length := by omega
      have h1' : (1 : Int) < (corG p).length := by omega
      have jl : (j : Int) < cnt := by omega
      have jj : IntKind.i64.wrap ((j : Int) + 1 - 1) = j := by rw [Int.add_sub_cancel]; exact wrap_i64_id (by omega) (by omega)
      have jj2 : (j : Int) + 1 - 1 = j := by omega
      have jw : IntKind.i64.wrap (j : Int) = j := wrap_i64_id (by omega) (by omega)
      have jt : j * 2 + 1 < cnt * 2 := by omega
      rw [show (L.set j ((L.getD j (0, 0)).1, ((corG p).length : Int))).length = cnt by rw [List.length_set]; exact rl]
      simp only [rtB]
      rw [← hset]
      clear m1 m2 m3 m4 m5 hcb hs c3 c4 c5 c8 c9 c10 c11 hrv hrn hrm H hcnt hct mk hj hj2 hset eb hm1 rl hc4
      generalize moreK p = mk' at *
      simp only [zB] at a54 a59 a41 a52 a56 lp ⊢
      generalize (cor (corG p)).getD 0 0 = x0 at *
      generalize (cor (corG p)).getD 1 0 = x1 at *
      generalize zm (cor (corG p)) = C2 at *
      generalize (cor (corG p)).length = c2l at *
      generalize zm (corG p) = G2 at *
      generalize (corG p).length = gl at *
      generalize zm (slp p) = S2 at *
      generalize rtC L = X at *
      generalize zm q1 = M1 at *
      generalize zm q2 = M2 at *
      generalize zm q3 = M3 at *
      generalize zm q4 = M4 at *
      rw [run29 _ _ _ (by simp)]
      simp (maxSteps := 1000000) (disch := first | omega | decide | assumption | simp [scal]) [za_76, sz_76, za_24, o_build za_24 pl_24, sz_24, za_90, sz_90, loadA_eq ia_90, za_3, sz_3, za_48, o_build za_48 pl_48, o_indexAddrS es_40, ze_40, o_buildSlice es_40 ze_40 (by decide) ba_40_1, ap_40, builtin_append ni_40, lenA_sl lk_71, loadA_eq ia_76, loadA_eq ia_24, o_indexAddrS es_71, loadA_eq ia_3, o_fieldAddr fa_48_1 (by decide), a21, a43, a56, lp, a54, a59, a41, a52, g0, g1, g0', g1', zl, w0', k0, k1, k0', k1', h1, h1', jl, jj, jj2, jw, jt, hjc, cl2]
    · have eb : Nat.ble 2 (corG p).length = false := by rw [Bool.eq_false_iff]; intro h; have := Nat.le_of_ble_eq_true h; omega
      rw [eb]
      simp only [cond_false]
      rw [rl]
      have h1' : ¬ (1 : Int) < (corG p).length := by omega
      clear hcb hs c3 c4 c5 c8 c9 c10 c11 hrv hrn hrm H hcnt hct mk eb rl hc4
      simp only [rtB]
      simp only [zB] at a54 a59 a56 lp ⊢
      generalize zm (corG p) = G2 at *
      generalize (corG p).length = gl at *
      generalize zm (slp p) = S2 at *
      generalize rtC L = X at *
      generalize zm q1 = M1 at *
      generalize zm q2 = M2 at *
      generalize zm q3 = M3 at *
      generalize zm q4 = M4 at *
      rw [run29 _ _ _ (by simp)]
      simp (maxSteps := 1000000) (disch := first | omega | decide | assumption | simp [scal]) [za_76, sz_76, za_24, o_build za_24 pl_24, sz_24, za_90, sz_90, loadA_eq ia_90, za_3, sz_3, za_48, o_build za_48 pl_48, o_indexAddrS es_40, ze_40, o_buildSlice es_40 ze_40 (by decide) ba_40_1, ap_40, builtin_append ni_40, lenA_sl lk_71, loadA_eq ia_76, loadA_eq ia_24, o_indexAddrS es_71, loadA_eq ia_3, o_fieldAddr fa_48_1 (by decide), a21, a43, a56, lp, a54, a59, h1, h1']
end
end Go.Proofs.Ytkmompbfcgjgmaa.nt
namespace Go.Proofs.Ytkmompbfcgjgmaa.nt
open Go.GE
set_option linter.unusedVariables false
set_option linter.unusedSimpArgs false
set_option linter.unusedSectionVars false
set_option maxRecDepth 100000
set_option maxHeartbeats 4000000
attribute [local simp] runOps_nil runOps_cons runOpsF_nil runOpsF_cons fstS_some fstF_some opStep_eq want_none oStep_true oStep_false fin_pure fin_read fin_alloc fin_write storeB wrN cellV addWr o_move o_assign o_pick o_alloc o_box o_load o_store o_nilCheck o_bin o_un o_extract o_callV o_callB o_callI callV_f callV_y callV_fc o_makeFunc partsA Instr.fill builtin_len builtin_max2 bin_add bin_sub bin_mul bin_quo bin_rem bin_lss bin_leq bin_gtr bin_geq bin_eql bin_neq un_neg un_not bin_shr bin_shl wrap_u64_id opd opds optAll putO nbeq nblt constOk isC ops sub cl cr co bodyOf thenS_normal thenS_ret thenS_exit thenS_goto afterN_normal afterN_ret afterN_exit afterN_goto condS_true condS_false blockS_normal blockS_ret blockS_exit blockS_goto headS normS normK_eq fixS_nil fixS_cons fix1 fixV emptyB keepO_nil keepO_cons roundC_normal roundC_exit roundC_ret roundC_goto sweep_eq sweepD rnm pickR pickW rootsB ptrT renT ptrFn renFn ptrB_flat ptrB_non renB_flat renB_non plainS_some drawS_some fpsOk disj unord range' dropTo enumT undef wrap_i64_id Value.cells mkCells ptrTo scal cellsAt rdN endS_ret resultsA Option.bind_some tupV finish reachN dep ptrL_eq ptrL renL_eq renL ptrV_bool ptrV_int ptrV_string ptrV_nilFunc ptrV_nilIface ptrV_nilPtr ptrV_ptr ptrV_nilSl ptrV_sl ptrV_iface ptrV_agg ptrV_tuple ptrV_func renV_bool renV_int renV_string renV_nilFunc renV_nilIface renV_nilPtr renV_ptr renV_nilSl renV_sl renV_iface renV_agg renV_tuple renV_func gotoS_goto gotoS_normal gotoS_exit gotoS_ret skip_seq sliceE bnd bndHi intOf optOpd keepT_nil keepT_cons keepC_t keepC_f lk_nil lk_cons lkC_t lkC_f has_nil has_cons hasC_t hasC_f rep_nil rep_cons repC_t repC_f put_eq putC_t putC_f mem_nil mem_cons memC_t memC_f idx_nil idx_cons idxC_t idxC_f reach_nil reachP_cons reachQ_t reachQ_f ptrB_dead renB_dead ins_eq
attribute [local simp] n7_1s n7_3s n7_6s n7_9s n7_10s n7_8s n7_11s n7_7s n7_5s n7_13s n7_15s n7_18s n7_23s n7_25s n7_26s n7_24s n7_22s n7_29s n7_35s n7_37s n7_38s n7_36s n7_34s n7_40s n7_39s n7_33s n7_32s n7_32g n7_31s n7_43s n7_46s n7_47s n7_45s n7_48s n7_44s n7_42s n7_50s n7_51s n7_49s n7_41s n7_30s n7_28s n7_27s n7_21s n7_20s n7_20g n7_19s n7_17s n7_53s n7_54s n7_52s n7_16s n7_14s n7_12s n7_4s n7_2s n7_0s Try.f7
theorem rt_at : ∀ (L : List (Int × Int)) (i : Nat) (r : Int × Int), L[i]? = some r → (rtC L)[i * 2]? = some (iv r.1) ∧ (rtC L)[i * 2 + 1]? = some (iv r.2) := by
  intro L
  induction L with
  | nil => intro i r h; simp at h
  | cons a L ih =>
    intro i r h
    have e : rtC (a :: L) = iv a.1 :: iv a.2 :: rtC L := rfl
    cases i with
    | zero => simp at h; subst h; rw [e]; exact ⟨rfl, rfl⟩
    | succ i =>
      obtain ⟨h1, h2⟩ := ih i r (by simpa using h)
      rw [e, show (i + 1) * 2 = i * 2 + 1 + 1 by omega]
      simp only [List.getElem?_cons_succ]
      exact ⟨h1, h2⟩
/-- how many roots follow that are no greater -/
def pfx (r : Int × Int) : List (Int × Int) → Nat
  | [] => 0
  | s :: l => bif leR s r then pfx r l + 1 else 0
theorem pfx_le {r : Int × Int} : ∀ l : List (Int × Int), pfx r l ≤ l.length := by
  intro l
  induction l with
  | nil => exact Nat.le_refl _
  | cons s l ih =>
    unfold pfx
    cases leR s r
    · simp
    · rw [cond_true, List.length_cons]; omega
def fdC : Nat → List (Int × Int) → List (Int × Int) → Bool
  | _, [], L => L.isEmpty
  | 0, _ :: _, _ => false
  | _ + 1, _ :: _, [] => false
  | f + 1, r :: R, l :: L => decide (l.2 = ((pfx r R + 1 : Nat) : Int)) && decide (l.1 * r.2 = 100 * r.1) && fdC f (R.drop (pfx r R)) L
section
variable (R L : List (Int × Int)) (hR : ∀ r, r ∈ R → okRt r) (hRl : R.length ≤ 3) (hLl : L.length ≤ 10) (e : Int)
include hR hRl hLl
theorem l7i (i : Nat) (r : Int × Int) (hi : R[i]? = some r) (k : Int) : ∀ (q t : Nat), i + t + q = R.length → 1 ≤ t →
    lpB Try.prog LL ⟨7, 99, 0, none⟩ n7_32 n7_33 ⟨[(10, iv t), (4, sl 0 0 R.length R.length), (6, sl 1 0 L.length L.length), (7, iv e), (8, iv k), (9, iv i)], [rtB R, rtB L], []⟩ =
      some (.exit 2, ⟨[(10, iv (t + pfx r (R.drop (i + t)) : Nat)), (4, sl 0 0 R.length R.length), (6, sl 1 0 L.length L.length), (7, iv e), (8, iv k), (9, iv i)], [rtB R, rtB L], []⟩) := by
  have hil := (List.getElem?_eq_some_iff.1 hi).1
  have hr := hR r (List.mem_of_getElem? hi)
  obtain ⟨p1, p2⟩ := rt_at R i r hi
  have hl2 := rtC_len (L := R)
  intro q
  induction q with
  | zero =>
    intro t ht h1
    have e1 : ¬ (i : Int) + (t : Int) < R.length := by omega
    have e2 : ¬ i + t < R.length := by omega
    have e3 : IntKind.i64.wrap ((i : Int) + (t : Int)) = (i : Int) + (t : Int) := wrap_i64_id (by omega) (by omega)
    rw [List.drop_eq_nil_of_le (by omega)]
    simp only [pfx, Nat.add_zero, rtB]
    generalize rtC R = X at *
    generalize rtC L = Y at *
    rw [lpB_eq]
    simp (maxSteps := 1000000) (disch := first | omega | decide | assumption | simp [scal]) [loadA_eq ia_54, lenA_sl lk_55, o_indexAddrS es_55, loadA_eq ia_24, lenA_sl lk_40, o_indexAddrS es_40, o_fieldAddr fa_48_1 (by decide), loadA_eq ia_3, o_fieldAddr fa_48_0 (by decide), o_fieldAddr fa_24_1 (by decide), o_fieldAddr fa_24_0 (by decide), want_some q7_35g6, want_some q7_43g4, want_some q7_43g13, want_some q7_53g2, want_some q7_53g8, e1, e2, e3]
  | succ q ih =>
    intro t ht h1
    have e0 : i + t < R.length := by omega
    have e1 : (i : Int) + (t : Int) < R.length := by omega
    have e3 : IntKind.i64.wrap ((i : Int) + (t : Int)) = (i : Int) + (t : Int) := wrap_i64_id (by omega) (by omega)
    have e4 : ((i : Int) + (t : Int)).toNat = i + t := by omega
    have e5 : 0 ≤ (i : Int) + (t : Int) := by omega
    have e6 : (i : Int) < R.length := by omega
    obtain ⟨s, hs⟩ : ∃ s, R[i + t]? = some s := ⟨R[i + t], List.getElem?_eq_getElem e0⟩
    have hso := hR s (List.mem_of_getElem? hs)
    obtain ⟨p3, p4⟩ := rt_at R (i + t) s hs
    have a33 := fun h => k33R hso hr h
    have hdr : R.drop (i + t) = s :: R.drop (i + t + 1) := by
      rw [List.drop_eq_getElem_cons e0]
      congr 1
      rw [List.getElem?_eq_getElem e0] at hs
      exact Option.some.inj hs
    rw [hdr]
    simp only [pfx]
    have b1 : i * 2 < R.length * 2 := by omega
    have b2 : i * 2 + 1 < R.length * 2 := by omega
    have b3 : (i + t) * 2 < R.length * 2 := by omega
    have b4 : (i + t) * 2 + 1 < R.length * 2 := by omega
    have p1' : ∀ h, (rtC R)[i * 2]'h = iv r.1 := fun h => by rw [List.getElem?_eq_getElem h] at p1; exact Option.some.inj p1
    have p2' : ∀ h, (rtC R)[i * 2 + 1]'h = iv r.2 := fun h => by rw [List.getElem?_eq_getElem h] at p2; exact Option.some.inj p2
    have p3' : ∀ h, (rtC R)[(i + t) * 2]'h = iv s.1 := fun h => by rw [List.getElem?_eq_getElem h] at p3; exact Option.some.inj p3
    have p4' : ∀ h, (rtC R)[(i + t) * 2 + 1]'h = iv s.2 := fun h => by rw [List.getElem?_eq_getElem h] at p4; exact Option.some.inj p4
    cases hL : leR s r
    · rw [hL] at a33
      simp only [cond_false, Nat.add_zero, rtB]
      clear ih hR hdr
      generalize rtC R = X at *
      generalize rtC L = Y at *
      generalize i + t = it at *
      rw [lpB_eq]
      simp (maxSteps := 1000000) (disch := first | omega | decide | assumption | simp [scal]) [loadA_eq ia_54, lenA_sl lk_55, o_indexAddrS es_55, loadA_eq ia_24, lenA_sl lk_40, o_indexAddrS es_40, o_fieldAddr fa_48_1 (by decide), loadA_eq ia_3, o_fieldAddr fa_48_0 (by decide), o_fieldAddr fa_24_1 (by decide), o_fieldAddr fa_24_0 (by decide), want_some q7_35g6, want_some q7_43g4, want_some q7_43g13, want_some q7_53g2, want_some q7_53g8, e0, e1, e3, e4, e5, e6, hil, p1, p2, p3, p4, p1', p2', p3', p4', b1, b2, b3, b4, hl2, a33]
    · rw [hL] at a33
      simp only [cond_true]
      have this := ih (t + 1) (by omega) (by omega)
      rw [show i + (t + 1) = i + t + 1 by omega] at this
      rw [show t + (pfx r (R.drop (i + t + 1)) + 1) = t + 1 + pfx r (R.drop (i + t + 1)) by omega]
      generalize t + 1 + pfx r (R.drop (i + t + 1)) = Z at *
      simp only [cast1] at this
      simp only [rtB] at this ⊢
      clear ih hR hdr
      generalize rtC R = X at *
      generalize rtC L = Y at *
      generalize i + t = it at *
      rw [lpB_eq]
      simp (maxSteps := 1000000) (disch := first | omega | decide | assumption | simp [scal]) [loadA_eq ia_54, lenA_sl lk_55, o_indexAddrS es_55, loadA_eq ia_24, lenA_sl lk_40, o_indexAddrS es_40, o_fieldAddr fa_48_1 (by decide), loadA_eq ia_3, o_fieldAddr fa_48_0 (by decide), o_fieldAddr fa_24_1 (by decide), o_fieldAddr fa_24_0 (by decide), want_some q7_35g6, want_some q7_43g4, want_some q7_43g13, want_some q7_53g2, want_some q7_53g8, e0, e1, e3, e4, e5, e6, hil, p1, p2, p3, p4, p1', p2', p3', p4', b1, b2, b3, b4, hl2, a33, this]
theorem l7o : ∀ (f i k : Nat), i ≤ R.length → k ≤ L.length → fdC f (R.drop i) (L.drop k) = true →
    lpB Try.prog LL ⟨7, 99, 0, none⟩ n7_20 n7_21 ⟨[(4, sl 0 0 R.length R.length), (6, sl 1 0 L.length L.length), (7, iv e), (8, iv k), (9, iv i)], [rtB R, rtB L], []⟩ =
      some (.exit 0, ⟨[(6, sl 0 0 L.length L.length), (7, iv e), (8, iv L.length)], [rtB L], []⟩) := by
  intro f
  induction f with
  | zero =>
    intro i k hi hk h
    by_cases e0 : i < R.length
    · rw [List.drop_eq_getElem_cons e0] at h
      simp [fdC] at h
    · rw [List.drop_eq_nil_of_le (by omega)] at h
      have hk2 : k = L.length := by
        have : (L.drop k).isEmpty = true := h
        rw [List.isEmpty_iff, List.drop_eq_nil_iff] at this
        omega
      subst hk2
      have e1 : ¬ (i : Int) < R.length := by omega
      have e2 : ¬ i < R.length := by omega
      simp only [rtB]
      generalize rtC R = X at *
      generalize rtC L = Y at *
      rw [lpB_eq]
      simp (maxSteps := 1000000) (disch := first | omega | decide | assumption | simp [scal]) [loadA_eq ia_54, lenA_sl lk_55, o_indexAddrS es_55, loadA_eq ia_24, lenA_sl lk_40, o_indexAddrS es_40, o_fieldAddr fa_48_1 (by decide), loadA_eq ia_3, o_fieldAddr fa_48_0 (by decide), o_fieldAddr fa_24_1 (by decide), o_fieldAddr fa_24_0 (by decide), want_some q7_35g6, want_some q7_43g4, want_some q7_43g13, want_some q7_53g2, want_some q7_53g8, e1, e2]
  | succ f ih =>
    intro i k hi hk h
    by_cases e0 : i < R.length
    · obtain ⟨r, hr⟩ : ∃ r, R[i]? = some r := ⟨R[i], List.getElem?_eq_getElem e0⟩
      have hro := hR r (List.mem_of_getElem? hr)
      have hdr : R.drop i = r :: R.drop (i + 1) := by
        rw [List.drop_eq_getElem_cons e0]
        congr 1
        rw [List.getElem?_eq_getElem e0] at hr
        exact Option.some.inj hr
      rw [hdr] at h
      by_cases k0 : k < L.length
      · obtain ⟨l, hl⟩ : ∃ l, L[k]? = some l := ⟨L[k], List.getElem?_eq_getElem k0⟩
        have hdl : L.drop k = l :: L.drop (k + 1) := by
          rw [List.drop_eq_getElem_cons k0]
          congr 1
          rw [List.getElem?_eq_getElem k0] at hl
          exact Option.some.inj hl
        rw [hdl] at h
        simp only [fdC, Bool.and_eq_true, decide_eq_true_eq] at h
        obtain ⟨⟨h1, h2⟩, h3⟩ := h
        rw [List.drop_drop] at h3
        have hp := pfx_le (r := r) (R.drop (i + 1))
        rw [List.length_drop] at hp
        have li := l7i R L hR hRl hLl e i r hr k (R.length - (i + 1)) 1 (by omega) (by omega)
        have this := ih (i + (pfx r (R.drop (i + 1)) + 1)) (k + 1) (by omega) (by omega) (by
          rw [show i + (pfx r (R.drop (i + 1)) + 1) = i + 1 + pfx r (R.drop (i + 1)) by omega]; exact h3)
        obtain ⟨p1, p2⟩ := rt_at R i r hr
        obtain ⟨p3, p4⟩ := rt_at L k l hl
        rw [Nat.add_comm 1] at li
        rw [h1] at p4
        have hb : pfx r (R.drop (i + 1)) ≤ 3 := by omega
        generalize pfx r (R.drop (i + 1)) = t at *
        have hl2 := rtC_len (L := R)
        have hl3 := rtC_len (L := L)
        have e1 : (i : Int) < R.length := by omega
        have k1 : (k : Int) < L.length := by omega
        have k2 : ¬ (L.length : Int) ≤ k := by omega
        have k3 : ¬ L.length ≤ k := by omega
        have b1 : i * 2 < R.length * 2 := by omega
        have b2 : i * 2 + 1 < R.length * 2 := by omega
        have b3 : k * 2 < L.length * 2 := by omega
        have b4 : k * 2 + 1 < L.length * 2 := by omega
        have p1' : ∀ h, (rtC R)[i * 2]'h = iv r.1 := fun h => by rw [List.getElem?_eq_getElem h] at p1; exact Option.some.inj p1
        have p2' : ∀ h, (rtC R)[i * 2 + 1]'h = iv r.2 := fun h => by rw [List.getElem?_eq_getElem h] at p2; exact Option.some.inj p2
        have p3' : ∀ h, (rtC L)[k * 2]'h = iv l.1 := fun h => by rw [List.getElem?_eq_getElem h] at p3; exact Option.some.inj p3
        have p4' : ∀ h, (rtC L)[k * 2 + 1]'h = iv ((t + 1 : Nat) : Int) := fun h => by rw [List.getElem?_eq_getElem h] at p4; exact Option.some.inj p4
        unfold okRt at hro
        have w1 : IntKind.i64.wrap (l.1 * r.2) = 100 * r.1 := by rw [h2]; exact wrap_i64_id (by omega) (by omega)
        have w2 : IntKind.i64.wrap (100 * r.1) = 100 * r.1 := wrap_i64_id (by omega) (by omega)
        have w3 : IntKind.i64.wrap ((i : Int) + ((t : Int) + 1)) = ((i + (t + 1) : Nat) : Int) := by rw [show (i : Int) + ((t : Int) + 1) = ((i + (t + 1) : Nat) : Int) by omega]; exact wrap_i64_id (by omega) (by omega)
        have w4 : IntKind.i64.wrap (((t + 1 : Nat) : Int)) = ((t + 1 : Nat) : Int) := wrap_i64_id (by omega) (by omega)
        clear ih hR hdr hdl h3 h2 h1 hp
        simp only [rtB, Int.natCast_one] at li this ⊢
        simp only [cast1] at li this p4 p4' w4
        generalize rtC R = X at *
        generalize rtC L = Y at *
        generalize r.1 = r1 at *
        generalize r.2 = r2 at *
        generalize l.1 = l1 at *
        generalize ((i + (t + 1) : Nat) : Int) = I2 at *
        rw [lpB_eq]
        simp (maxSteps := 1000000) (disch := first | omega | decide | assumption | simp [scal]) [loadA_eq ia_54, lenA_sl lk_55, o_indexAddrS es_55, loadA_eq ia_24, lenA_sl lk_40, o_indexAddrS es_40, o_fieldAddr fa_48_1 (by decide), loadA_eq ia_3, o_fieldAddr fa_48_0 (by decide), o_fieldAddr fa_24_1 (by decide), o_fieldAddr fa_24_0 (by decide), want_some q7_35g6, want_some q7_43g4, want_some q7_43g13, want_some q7_53g2, want_some q7_53g8, e0, e1, k0, k1, k2, k3, p1, p2, p3, p4, p1', p2', p3', p4', b1, b2, b3, b4, hl2, hl3, li, w1, w2, w3, w4, this]
      · rw [List.drop_eq_nil_of_le (show L.length ≤ k by omega)] at h
        simp [fdC] at h
    · rw [List.drop_eq_nil_of_le (by omega)] at h
      have hk2 : k = L.length := by
        have : (L.drop k).isEmpty = true := h
        rw [List.isEmpty_iff, List.drop_eq_nil_iff] at this
        omega
      subst hk2
      have e1 : ¬ (i : Int) < R.length := by omega
      have e2 : ¬ i < R.length := by omega
      simp only [rtB]
      generalize rtC R = X at *
      generalize rtC L = Y at *
      rw [lpB_eq]
      simp (maxSteps := 1000000) (disch := first | omega | decide | assumption | simp [scal]) [loadA_eq ia_54, lenA_sl lk_55, o_indexAddrS es_55, loadA_eq ia_24, lenA_sl lk_40, o_indexAddrS es_40, o_fieldAddr fa_48_1 (by decide), loadA_eq ia_3, o_fieldAddr fa_48_0 (by decide), o_fieldAddr fa_24_1 (by decide), o_fieldAddr fa_24_0 (by decide), want_some q7_35g6, want_some q7_43g4, want_some q7_43g13, want_some q7_53g2, want_some q7_53g8, e1, e2]
end
section
variable (r0 s0 r1 s1 r2 s2 : Int) (n : Nat) (o : Bool) (g : Int) (h8 : I8 r0 ∧ I8 s0 ∧ I8 r1 ∧ I8 s1 ∧ I8 r2 ∧ I8 s2 ∧ I8 g) (hn : n < 256)
include h8 hn
theorem c7 (hL : okP (shP r0 s0 r1 s1 r2 s2 n o g) = true → RtB (shP r0 s0 r1 s1 r2 s2 n o g) ∧ fdC 3 (shQ r0 s0 r1 s1 r2 s2 n o) (rootsF (shP r0 s0 r1 s1 r2 s2 n o g)) = true ∧ (rootsF (shP r0 s0 r1 s1 r2 s2 n o g)).length ≤ 10) :
    LL.run 7 [shV r0 s0 r1 s1 r2 s2 n o g] [] = some ⟨.bool true, [], []⟩ := by
  have a31 := fun h => (k31 r0 s0 r1 s1 r2 s2 n g h8 hn o h).1
  obtain ⟨_, p2, p4, q3⟩ := k31 r0 s0 r1 s1 r2 s2 n g h8 hn o []
  have hq := shQ_ok (r0 := r0) (s0 := s0) (r1 := r1) (s1 := s1) (r2 := r2) (s2 := s2) (n := n) (o := o)
  generalize shP r0 s0 r1 s1 r2 s2 n o g = P at *
  generalize shQ r0 s0 r1 s1 r2 s2 n o = R at *
  refine go (by decide) ?_
  cases hok : okP P
  · rw [hok] at a31
    clear hL hq
    obtain ⟨pl, hpl⟩ : ∃ pl, P.length = pl := ⟨_, rfl⟩
    obtain ⟨ql, hql⟩ : ∃ ql, R.length = ql := ⟨_, rfl⟩
    rw [hpl, hql] at a31
    simp only [zB, rtB] at a31
    generalize zm P = L1 at *
    generalize rtC R = L2 at *
    rw [run7 _ _ _ (by simp)]
    simp (maxSteps := 1000000) (disch := first | omega | decide | assumption | simp [scal]) [loadA_eq ia_54, lenA_sl lk_55, o_indexAddrS es_55, loadA_eq ia_24, lenA_sl lk_40, o_indexAddrS es_40, o_fieldAddr fa_48_1 (by decide), loadA_eq ia_3, o_fieldAddr fa_48_0 (by decide), o_fieldAddr fa_24_1 (by decide), o_fieldAddr fa_24_0 (by decide), want_some q7_35g6, want_some q7_43g4, want_some q7_43g13, want_some q7_53g2, want_some q7_53g8, a31, k12]
  · rw [hok] at a31
    obtain ⟨H, hf, hl⟩ := hL hok
    have a29 := fun Z R => k29 1 P.length (p := P) (h := Z :: zB P :: R) rfl PoC_zm (by omega) H
    have lp := l7o R (rootsF P) hq q3 hl 0 3 0 0 (by omega) (by omega) hf
    simp only [Int.natCast_zero] at lp
    generalize rootsF P = L at *
    obtain ⟨pl, hpl⟩ : ∃ pl, P.length = pl := ⟨_, rfl⟩
    obtain ⟨ql, hql⟩ : ∃ ql, R.length = ql := ⟨_, rfl⟩
    obtain ⟨ll, hll⟩ : ∃ ll, L.length = ll := ⟨_, rfl⟩
    rw [hpl, hql] at a31
    rw [hpl, hll] at a29
    rw [hql, hll] at lp
    clear hL hq H hf
    simp only [zB, rtB] at a31 a29 lp
    generalize zm P = L1 at *
    generalize rtC R = L2 at *
    generalize rtC L = L3 at *
    rw [run7 _ _ _ (by simp)]
    simp (maxSteps := 1000000) (disch := first | omega | decide | assumption | simp [scal]) [loadA_eq ia_54, lenA_sl lk_55, o_indexAddrS es_55, loadA_eq ia_24, lenA_sl lk_40, o_indexAddrS es_40, o_fieldAddr fa_48_1 (by decide), loadA_eq ia_3, o_fieldAddr fa_48_0 (by decide), o_fieldAddr fa_24_1 (by decide), o_fieldAddr fa_24_0 (by decide), want_some q7_35g6, want_some q7_43g4, want_some q7_43g13, want_some q7_53g2, want_some q7_53g8, a31, a29, lp, k12]
end
end Go.Proofs.Ytkmompbfcgjgmaa.nt
namespace Go.Proofs.Ytkmompbfcgjgmaa.nt
open Go.GE
set_option linter.unusedVariables false
set_option linter.unusedSimpArgs false
set_option linter.unusedSectionVars false
set_option maxRecDepth 1000000
set_option maxHeartbeats 4000000
def evY (y xp xn : Nat) : List (Nat × Nat) → Nat → Nat → Nat → Nat
  | [], sp, sn, _ => bif Nat.blt sn sp then 1 else bif Nat.blt sp sn then 2 else 0
  | c :: r, sp, sn, w => evY y xp xn r (Nat.add (Nat.add (Nat.mul sp xp) (Nat.mul sn xn)) (Nat.mul c.1 w)) (Nat.add (Nat.add (Nat.mul sp xn) (Nat.mul sn xp)) (Nat.mul c.2 w)) (Nat.mul w y)
def chY (y xp xn : Nat) : List (List (Nat × Nat)) → Nat → Nat → Nat
  | [], _, n => n
  | q :: S, l, n => (fun s => bif Nat.beq s 0 then chY y xp xn S l n else chY y xp xn S s (bif Nat.beq l 0 then n else bif Nat.beq s l then n else Nat.succ n)) (evY y xp xn q 0 0 1)
theorem evY_sg {y xp xn : Nat} : ∀ (r : List Int) (sp sn w : Nat), evY y xp xn (r.map fun c => (c.toNat, (-c).toNat)) sp sn w ≤ 2 ∧ dc (evY y xp xn (r.map fun c => (c.toNat, (-c).toNat)) sp sn w) = sg (evS ((xp : Int) - xn) y r ((sp : Int) - sn) w) := by
  intro r
  induction r with
  | nil =>
    intro sp sn w
    simp only [List.map_nil, evY, evS]
    unfold sg
    by_cases h1 : sn < sp
    · have e1 : Nat.blt sn sp = true := by rw [nblt]; simp [h1]
      rw [e1, cond_true, if_pos (by omega)]
      exact ⟨by decide, rfl⟩
    · have e1 : Nat.blt sn sp = false := by rw [nblt]; simp; omega
      rw [e1, cond_false, if_neg (by omega)]
      by_cases h2 : sp < sn
      · have e2 : Nat.blt sp sn = true := by rw [nblt]; simp [h2]
        rw [e2, cond_true, if_pos (by omega)]
        exact ⟨by decide, rfl⟩
      · have e2 : Nat.blt sp sn = false := by rw [nblt]; simp; omega
        rw [e2, cond_false, if_neg (by omega)]
        exact ⟨by decide, rfl⟩
  | cons c r ih =>
    intro sp sn w
    simp only [List.map_cons, evY, evS]
    have hc : c = ((c.toNat : Nat) : Int) - ((-c).toNat : Nat) := by omega
    obtain ⟨i1, i2⟩ := ih (Nat.add (Nat.add (Nat.mul sp xp) (Nat.mul sn xn)) (Nat.mul c.toNat w)) (Nat.add (Nat.add (Nat.mul sp xn) (Nat.mul sn xp)) (Nat.mul (-c).toNat w)) (Nat.mul w y)
    refine ⟨i1, ?_⟩
    rw [i2]
    have e1 : ((Nat.add (Nat.add (Nat.mul sp xp) (Nat.mul sn xn)) (Nat.mul c.toNat w) : Nat) : Int) - ((Nat.add (Nat.add (Nat.mul sp xn) (Nat.mul sn xp)) (Nat.mul (-c).toNat w) : Nat) : Int) = ((sp : Int) - sn) * ((xp : Int) - xn) + c * w := by
      have e : ((Nat.add (Nat.add (Nat.mul sp xp) (Nat.mul sn xn)) (Nat.mul c.toNat w) : Nat) : Int) = (sp : Int) * xp + (sn : Int) * xn + (c.toNat : Int) * w := by
        show ((sp * xp + sn * xn + c.toNat * w : Nat) : Int) = _
        rw [Int.natCast_add, Int.natCast_add, Int.natCast_mul, Int.natCast_mul, Int.natCast_mul]
      have e' : ((Nat.add (Nat.add (Nat.mul sp xn) (Nat.mul sn xp)) (Nat.mul (-c).toNat w) : Nat) : Int) = (sp : Int) * xn + (sn : Int) * xp + ((-c).toNat : Int) * w := by
        show ((sp * xn + sn * xp + (-c).toNat * w : Nat) : Int) = _
        rw [Int.natCast_add, Int.natCast_add, Int.natCast_mul, Int.natCast_mul, Int.natCast_mul]
      rw [e, e']
      generalize c.toNat = cp at *
      generalize (-c).toNat = cn at *
      subst hc
      grind
    have e2 : ((Nat.mul w y : Nat) : Int) = (w : Int) * y := by show ((w * y : Nat) : Int) = _; rw [Int.natCast_mul]
    rw [e1, e2]
theorem chY_eq {y xp xn : Nat} : ∀ (S : List (List Int)) (l n : Nat), l ≤ 2 → chY y xp xn (toN S) l n = chN (S.map fun q => sgP q ((xp : Int) - xn) y) (dc l) n := by
  intro S
  induction S with
  | nil => intro l n _; rfl
  | cons q S ih =>
    intro l n hl
    obtain ⟨h1, h2⟩ := evY_sg (y := y) (xp := xp) (xn := xn) q.reverse 0 0 1
    have h2' : dc (evY y xp xn (toQ q) 0 0 1) = sgP q ((xp : Int) - xn) y := by
      unfold toQ sgP
      rw [h2]
      rfl
    show (fun s => bif Nat.beq s 0 then chY y xp xn (toN S) l n else chY y xp xn (toN S) s (bif Nat.beq l 0 then n else bif Nat.beq s l then n else Nat.succ n)) (evY y xp xn (toQ q) 0 0 1) = _
    simp only [List.map_cons, chN]
    rw [← h2']
    have h1 : evY y xp xn (toQ q) 0 0 1 ≤ 2 := h1
    generalize evY y xp xn (toQ q) 0 0 1 = s at *
    have z0 : dc s = 0 ↔ s = 0 := by have := dc_inj h1 (show 0 ≤ 2 by decide); exact this
    have z1 : dc l = 0 ↔ l = 0 := by have := dc_inj hl (show 0 ≤ 2 by decide); exact this
    have z2 := dc_inj h1 hl
    by_cases c1 : s = 0
    · rw [if_pos (z0.2 c1), nbeq, decide_eq_true c1, cond_true]
      exact ih l n hl
    · rw [if_neg (fun h => c1 (z0.1 h)), nbeq, decide_eq_false c1, cond_false, ih _ _ h1]
      congr 1
      by_cases c2 : l = 0
      · rw [nbeq, decide_eq_true c2, cond_true, if_neg (fun h => h.1 (z1.2 c2))]
      · rw [nbeq, decide_eq_false c2, cond_false]
        by_cases c3 : s = l
        · rw [nbeq, decide_eq_true c3, cond_true, if_neg (fun h => h.2 (z2.2 c3))]
        · rw [nbeq, decide_eq_false c3, cond_false, if_pos ⟨fun h => c2 (z1.1 h), fun h => c3 (z2.1 h)⟩]
theorem chY_vAt {y xp xn : Nat} {S : List (List Int)} : chY y xp xn (toN S) 0 0 = vAt S ((xp : Int) - xn) y := chY_eq S 0 0 (by decide)
theorem evB_big {x y : Int} {C L : Nat} (hx : x.natAbs ≤ 5200) (hy : y.natAbs ≤ 100) (h1C : 1 ≤ C) (hCL : C * 5300 ^ L ≤ 4611686018427387904) : ∀ (r : List Int) (k : Nat) (s w : Int), (∀ c, c ∈ r → c.natAbs ≤ C) → k + r.length ≤ L → s.natAbs ≤ C * 5300 ^ k → w.natAbs ≤ 100 ^ k → evB x y r s w = true := by
  intro r
  induction r with
  | nil => intro k s w _ _ _ _; rfl
  | cons c r ih =>
    intro k s w hc hk hs hw
    have h1 := hc c (by simp)
    simp only [List.length_cons] at hk
    have hBA : 100 ^ k ≤ 5300 ^ k := Nat.pow_le_pow_left (by decide) k
    have m1 : (s * x).natAbs ≤ C * 5300 ^ k * 5200 := by rw [Int.natAbs_mul]; exact Nat.mul_le_mul hs hx
    have m2 : (c * w).natAbs ≤ C * 5300 ^ k := by rw [Int.natAbs_mul]; exact Nat.mul_le_mul h1 (by omega)
    have m3 : (w * y).natAbs ≤ 100 ^ k * 100 := by rw [Int.natAbs_mul]; exact Nat.mul_le_mul hw hy
    have m4 := Int.natAbs_add_le (s * x) (c * w)
    have e1 : C * 5300 ^ (k + 1) = C * 5300 ^ k * 5300 := by rw [Nat.pow_succ, Nat.mul_assoc]
    have e2 : 100 ^ (k + 1) = 100 ^ k * 100 := Nat.pow_succ ..
    have e3 : C * 5300 ^ (k + 1) ≤ C * 5300 ^ L := Nat.mul_le_mul_left _ (Nat.pow_le_pow_right (by decide) (by omega))
    have e4 : 5300 ^ k ≤ C * 5300 ^ k := Nat.le_mul_of_pos_left _ h1C
    have i := ih (k + 1) (s * x + c * w) (w * y) (fun d hd => hc d (by simp [hd])) (by omega) (by rw [e1]; omega) (by omega)
    simp only [evB, i, Bool.and_true]
    unfold okI
    simp only [Bool.and_eq_true, decide_eq_true_eq]
    omega
def bnF (S : List (List Int)) : Bool := S.all fun q => bif Nat.beq q.length 4 then q.all fun c => Nat.ble c.natAbs 1000 else bif Nat.beq q.length 3 then q.all fun c => Nat.ble c.natAbs 10000000 else true
theorem evA_big {S : List (List Int)} (h : bndS S = true) (hF : bnF S = true) {x y : Int} (hx : x.natAbs ≤ 5200) (hy : y.natAbs ≤ 100) : evA S x y = true := by
  unfold bndS at h
  unfold bnF at hF
  unfold evA
  rw [List.all_eq_true] at h hF ⊢
  intro q hq
  have hf := hF q hq
  have := h q hq
  rw [Bool.and_eq_true, Bool.and_eq_true] at this
  obtain ⟨⟨a1, a2⟩, a3⟩ := this
  have b1 := Nat.le_of_ble_eq_true a1
  have b2 := Nat.le_of_ble_eq_true a2
  rw [Bool.and_eq_true, Bool.and_eq_true]
  refine ⟨⟨?_, a1⟩, by rw [Nat.ble_eq]; omega⟩
  by_cases c4 : q.length = 4
  · rw [nbeq, decide_eq_true c4, cond_true] at hf
    exact evB_big (C := 1000) (L := 4) hx hy (by decide) (by decide) q.reverse 0 0 1 (fun c hc => Nat.le_of_ble_eq_true (List.all_eq_true.1 hf c (List.mem_reverse.1 hc))) (by rw [List.length_reverse]; omega) (by decide) (by decide)
  · rw [nbeq, decide_eq_false c4, cond_false] at hf
    by_cases c3 : q.length = 3
    · rw [nbeq, decide_eq_true c3, cond_true] at hf
      exact evB_big (C := 10000000) (L := 3) hx hy (by decide) (by decide) q.reverse 0 0 1 (fun c hc => Nat.le_of_ble_eq_true (List.all_eq_true.1 hf c (List.mem_reverse.1 hc))) (by rw [List.length_reverse]; omega) (by decide) (by decide)
    · exact evB_big (C := 1000000000) (L := 2) hx hy (by decide) (by decide) q.reverse 0 0 1 (fun c hc => Nat.le_of_ble_eq_true (List.all_eq_true.1 a3 c (List.mem_reverse.1 hc))) (by rw [List.length_reverse]; omega) (by decide) (by decide)
def rtN (N : List (List (Nat × Nat))) (v0 : Nat) : Nat → Nat → List (Nat × Nat)
  | 0, _ => []
  | q + 1, i => (srch (fun n => Nat.blt (Nat.add i (chY 100 n 5200 N 0 0)) v0) 15 0 10400, 1) :: rtN N v0 q (i + 1)
def setN : Nat → Nat → List (Nat × Nat) → List (Nat × Nat)
  | _, _, [] => []
  | 0, m, a :: l => (a.1, m) :: l
  | j + 1, m, a :: l => a :: setN j m l
def cv (a : Nat × Nat) : Int × Int := ((a.1 : Int) - 5200, (a.2 : Int))
def pfxT (t : Nat) : List Nat → Nat
  | [] => 0
  | s :: l => bif Nat.ble s t then pfxT t l + 1 else 0
def fdT : Nat → List Nat → List (Nat × Nat) → Bool
  | _, [], L => L.isEmpty
  | 0, _ :: _, _ => false
  | _ + 1, _ :: _, [] => false
  | f + 1, t :: T, l :: L => Nat.beq l.2 (pfxT t T + 1) && Nat.beq l.1 (Nat.add (Nat.mul 25 t) 3600) && fdT f (T.drop (pfxT t T)) L
theorem pfx_T {r : Int × Int} (hr : okRt r) : ∀ (R : List (Int × Int)), (∀ s, s ∈ R → okRt s) → pfx r R = pfxT (tNr r) (R.map tNr) := by
  intro R
  induction R with
  | nil => intro _; rfl
  | cons s R ih =>
    intro h
    simp only [pfx, List.map_cons, pfxT]
    rw [le_tr (h s (by simp)) hr, ih (fun x hx => h x (by simp [hx]))]
theorem fdC_T : ∀ (f : Nat) (R : List (Int × Int)) (L : List (Nat × Nat)), (∀ s, s ∈ R → okRt s) → fdT f (R.map tNr) L = true → fdC f R (L.map cv) = true := by
  intro f
  induction f with
  | zero =>
    intro R L hR h
    cases R with
    | nil =>
      have h : L.isEmpty = true := h
      rw [List.isEmpty_iff] at h
      subst h
      rfl
    | cons r R => simp [fdT] at h
  | succ f ih =>
    intro R L hR h
    cases R with
    | nil =>
      have h : L.isEmpty = true := h
      rw [List.isEmpty_iff] at h
      subst h
      rfl
    | cons r R =>
      cases L with
      | nil => simp [fdT] at h
      | cons l L =>
        simp only [List.map_cons, fdT, Bool.and_eq_true] at h
        obtain ⟨⟨h1, h2⟩, h3⟩ := h
        have h1 := Nat.eq_of_beq_eq_true h1
        have h2 := Nat.eq_of_beq_eq_true h2
        have hr := hR r (by simp)
        have hp := pfx_T hr R (fun x hx => hR x (by simp [hx]))
        simp only [List.map_cons, fdC, Bool.and_eq_true, decide_eq_true_eq]
        rw [← hp] at h1 h3
        rw [← List.map_drop] at h3
        refine ⟨⟨?_, ?_⟩, ih _ _ (fun x hx => hR x (by simp [List.mem_of_mem_drop hx])) h3⟩
        · show (l.2 : Int) = _
          rw [h1]
        · show ((l.1 : Int) - 5200) * r.2 = 100 * r.1
          rw [h2]
          obtain ⟨a, b⟩ := r
          unfold okRt at hr
          unfold tNr hv
          simp only [] at hr ⊢
          have e : ∀ t : Nat, Nat.add (Nat.mul 25 t) 3600 = 25 * t + 3600 := fun _ => rfl
          rw [e]
          rcases (by omega : b = 1 ∨ b = 2) with rfl | rfl <;> simp <;> omega
theorem rtsF_N {S : List (List Int)} {v0 : Nat} (h0 : vAt S (-52) 1 = v0) : ∀ (q i : Nat) (L : List (Int × Int)), rtsF S q i L = L ++ (rtN (toN S) v0 q i).map cv := by
  intro q
  induction q with
  | zero => intro i L; simp [rtsF, rtN]
  | succ q ih =>
    intro i L
    unfold rtsF
    rw [ih]
    simp only [rtN, List.map_cons, List.append_assoc, List.singleton_append]
    congr 2
    unfold rt1 cv
    simp only []
    have e : (fun n : Nat => decide ((i : Int) < upV S n)) = fun n => Nat.blt (Nat.add i (chY 100 n 5200 (toN S) 0 0)) v0 := by
      funext n
      rw [chY_vAt, nblt]
      unfold upV
      rw [h0]
      have e : ∀ t : Nat, Nat.add i t = i + t := fun _ => rfl
      rw [e]
      rw [Bool.eq_iff_iff, decide_eq_true_eq, decide_eq_true_eq]
      have e2 : ((100 : Nat) : Int) = 100 := rfl
      have e3 : ((5200 : Nat) : Int) = 5200 := rfl
      rw [e2, e3]
      generalize vAt S ((n : Int) - 5200) 100 = z
      omega
    rw [e]
    rfl
theorem set_N {m : Nat} : ∀ (L : List (Nat × Nat)) (j : Nat), (L.map cv).set j (((L.map cv).getD j (0, 0)).1, (m : Int)) = (setN j m L).map cv := by
  intro L
  induction L with
  | nil => intro j; cases j <;> rfl
  | cons a L ih =>
    intro j
    cases j with
    | zero => rfl
    | succ j =>
      have := ih j
      simp only [List.map_cons, List.set_cons_succ, setN, List.getD_cons_succ]
      rw [this]
/-- the roots found, from the chain, the common part and its core -/
def ckR (N : List (List (Nat × Nat))) (G : List Int) (c0 c1 : Int) (T : List Nat) : Bool :=
  (fun v0 u => Nat.ble u v0 && (fun L => bif Nat.ble 2 G.length then
      (fun w => decide (0 ≤ c1) && decide (c0.natAbs ≤ 32) && decide (c1.natAbs ≤ 4) && Nat.blt w v0 && Nat.ble u w && (fun L2 => fdT 3 T L2 && Nat.ble L2.length 10) (setN (Nat.sub (Nat.sub v0 w) 1) G.length L)) (chY c1.toNat (-c0).toNat c0.toNat N 0 0)
      else fdT 3 T L && Nat.ble L.length 10) (rtN N v0 (Nat.sub v0 u) 0)) (chY 1 0 52 N 0 0) (chY 100 10400 5200 N 0 0)
/-- the common part is good -/
def ckG (P : List Int) : Bool := (fun G => bif Nat.ble 2 G.length then corB G && Nat.ble 2 (cor G).length else true) (corG P)
def ckF (l : List (Int × Int)) (base : List Int) : Bool := (fun P => bif okP P then bnF (stu P) && ckG P && ckG (ngP P) && decide ((corG (ngP P)).length = (corG P).length) && decide (cor (corG (ngP P)) = cor (corG P)) && ckR (toN (stu P)) (corG P) ((cor (corG P)).getD 0 0) ((cor (corG P)).getD 1 0) ((fldR l []).map tNr) else true) (fldP l base)
end Go.Proofs.Ytkmompbfcgjgmaa.nt
namespace Go.Proofs.Ytkmompbfcgjgmaa.nt
open Go.GE
set_option linter.unusedVariables false
set_option linter.unusedSimpArgs false
set_option linter.unusedSectionVars false
set_option maxRecDepth 1000000
set_option maxHeartbeats 4000000
theorem fB_all : ((rtAll.all fun a => ckF [a] [2, 0, 1]) && ckF [] [2, 0, 1]) = true := by kernel_rfl
theorem f_0_2 : (rtAll.all fun c => bif Nat.ble (rk (-2, 1)) (rk c) then ckF [(-3, 1), (-2, 1), c] [1] else true) = true := by kernel_rfl
theorem f_2_2 : (rtAll.all fun c => bif Nat.ble (rk (-2, 1)) (rk c) then ckF [(-2, 1), (-2, 1), c] [1] else true) = true := by kernel_rfl
theorem f_1_4 : (rtAll.all fun c => bif Nat.ble (rk (-1, 1)) (rk c) then ckF [(-3, 2), (-1, 1), c] [1] else true) = true := by kernel_rfl
theorem f_4_4 : (rtAll.all fun c => bif Nat.ble (rk (-1, 1)) (rk c) then ckF [(-1, 1), (-1, 1), c] [1] else true) = true := by kernel_rfl
theorem f_5_5 : (rtAll.all fun c => bif Nat.ble (rk (-1, 2)) (rk c) then ckF [(-1, 2), (-1, 2), c] [1] else true) = true := by kernel_rfl
theorem f_3_6 : (rtAll.all fun c => bif Nat.ble (rk (0, 1)) (rk c) then ckF [(-2, 2), (0, 1), c] [1] else true) = true := by kernel_rfl
theorem f_0_7 : (rtAll.all fun c => bif Nat.ble (rk (0, 2)) (rk c) then ckF [(-3, 1), (0, 2), c] [1] else true) = true := by kernel_rfl
theorem f_2_7 : (rtAll.all fun c => bif Nat.ble (rk (0, 2)) (rk c) then ckF [(-2, 1), (0, 2), c] [1] else true) = true := by kernel_rfl
theorem f_7_7 : (rtAll.all fun c => bif Nat.ble (rk (0, 2)) (rk c) then ckF [(0, 2), (0, 2), c] [1] else true) = true := by kernel_rfl
theorem f_6_8 : (rtAll.all fun c => bif Nat.ble (rk (1, 1)) (rk c) then ckF [(0, 1), (1, 1), c] [1] else true) = true := by kernel_rfl
theorem f_1_9 : (rtAll.all fun c => bif Nat.ble (rk (1, 2)) (rk c) then ckF [(-3, 2), (1, 2), c] [1] else true) = true := by kernel_rfl
theorem f_4_9 : (rtAll.all fun c => bif Nat.ble (rk (1, 2)) (rk c) then ckF [(-1, 1), (1, 2), c] [1] else true) = true := by kernel_rfl
theorem f_9_9 : (rtAll.all fun c => bif Nat.ble (rk (1, 2)) (rk c) then ckF [(1, 2), (1, 2), c] [1] else true) = true := by kernel_rfl
theorem f_5_10 : (rtAll.all fun c => bif Nat.ble (rk (2, 1)) (rk c) then ckF [(-1, 2), (2, 1), c] [1] else true) = true := by kernel_rfl
theorem f_10_10 : (rtAll.all fun c => bif Nat.ble (rk (2, 1)) (rk c) then ckF [(2, 1), (2, 1), c] [1] else true) = true := by kernel_rfl
theorem f_3_11 : (rtAll.all fun c => bif Nat.ble (rk (2, 2)) (rk c) then ckF [(-2, 2), (2, 2), c] [1] else true) = true := by kernel_rfl
theorem f_8_11 : (rtAll.all fun c => bif Nat.ble (rk (2, 2)) (rk c) then ckF [(1, 1), (2, 2), c] [1] else true) = true := by kernel_rfl
theorem f_0_12 : (rtAll.all fun c => bif Nat.ble (rk (3, 1)) (rk c) then ckF [(-3, 1), (3, 1), c] [1] else true) = true := by kernel_rfl
theorem f_2_12 : (rtAll.all fun c => bif Nat.ble (rk (3, 1)) (rk c) then ckF [(-2, 1), (3, 1), c] [1] else true) = true := by kernel_rfl
theorem f_7_12 : (rtAll.all fun c => bif Nat.ble (rk (3, 1)) (rk c) then ckF [(0, 2), (3, 1), c] [1] else true) = true := by kernel_rfl
theorem f_12_12 : (rtAll.all fun c => bif Nat.ble (rk (3, 1)) (rk c) then ckF [(3, 1), (3, 1), c] [1] else true) = true := by kernel_rfl
theorem f_6_13 : (rtAll.all fun c => bif Nat.ble (rk (3, 2)) (rk c) then ckF [(0, 1), (3, 2), c] [1] else true) = true := by kernel_rfl
theorem f_11_13 : (rtAll.all fun c => bif Nat.ble (rk (3, 2)) (rk c) then ckF [(2, 2), (3, 2), c] [1] else true) = true := by kernel_rfl
end Go.Proofs.Ytkmompbfcgjgmaa.nt
namespace Go.Proofs.Ytkmompbfcgjgmaa.nt
open Go.GE
set_option linter.unusedVariables false
set_option linter.unusedSimpArgs false
set_option linter.unusedSectionVars false
set_option maxRecDepth 1000000
set_option maxHeartbeats 4000000
theorem fC_all : ((rtAll.all fun a => ckF [a] [1, 1, 1]) && ckF [] [1, 1, 1]) = true := by kernel_rfl
theorem f_1_2 : (rtAll.all fun c => bif Nat.ble (rk (-2, 1)) (rk c) then ckF [(-3, 2), (-2, 1), c] [1] else true) = true := by kernel_rfl
theorem f2_2 : (rtAll.all fun b => bif Nat.ble (rk (-2, 1)) (rk b) then ckF [(-2, 1), b] [1] else true) = true := by kernel_rfl
theorem f_2_4 : (rtAll.all fun c => bif Nat.ble (rk (-1, 1)) (rk c) then ckF [(-2, 1), (-1, 1), c] [1] else true) = true := by kernel_rfl
theorem f2_4 : (rtAll.all fun b => bif Nat.ble (rk (-1, 1)) (rk b) then ckF [(-1, 1), b] [1] else true) = true := by kernel_rfl
theorem f2_5 : (rtAll.all fun b => bif Nat.ble (rk (-1, 2)) (rk b) then ckF [(-1, 2), b] [1] else true) = true := by kernel_rfl
theorem f_4_6 : (rtAll.all fun c => bif Nat.ble (rk (0, 1)) (rk c) then ckF [(-1, 1), (0, 1), c] [1] else true) = true := by kernel_rfl
theorem f_1_7 : (rtAll.all fun c => bif Nat.ble (rk (0, 2)) (rk c) then ckF [(-3, 2), (0, 2), c] [1] else true) = true := by kernel_rfl
theorem f_3_7 : (rtAll.all fun c => bif Nat.ble (rk (0, 2)) (rk c) then ckF [(-2, 2), (0, 2), c] [1] else true) = true := by kernel_rfl
theorem f2_7 : (rtAll.all fun b => bif Nat.ble (rk (0, 2)) (rk b) then ckF [(0, 2), b] [1] else true) = true := by kernel_rfl
theorem f_7_8 : (rtAll.all fun c => bif Nat.ble (rk (1, 1)) (rk c) then ckF [(0, 2), (1, 1), c] [1] else true) = true := by kernel_rfl
theorem f_2_9 : (rtAll.all fun c => bif Nat.ble (rk (1, 2)) (rk c) then ckF [(-2, 1), (1, 2), c] [1] else true) = true := by kernel_rfl
theorem f_5_9 : (rtAll.all fun c => bif Nat.ble (rk (1, 2)) (rk c) then ckF [(-1, 2), (1, 2), c] [1] else true) = true := by kernel_rfl
theorem f2_9 : (rtAll.all fun b => bif Nat.ble (rk (1, 2)) (rk b) then ckF [(1, 2), b] [1] else true) = true := by kernel_rfl
theorem f_6_10 : (rtAll.all fun c => bif Nat.ble (rk (2, 1)) (rk c) then ckF [(0, 1), (2, 1), c] [1] else true) = true := by kernel_rfl
theorem f2_10 : (rtAll.all fun b => bif Nat.ble (rk (2, 1)) (rk b) then ckF [(2, 1), b] [1] else true) = true := by kernel_rfl
theorem f_4_11 : (rtAll.all fun c => bif Nat.ble (rk (2, 2)) (rk c) then ckF [(-1, 1), (2, 2), c] [1] else true) = true := by kernel_rfl
theorem f_9_11 : (rtAll.all fun c => bif Nat.ble (rk (2, 2)) (rk c) then ckF [(1, 2), (2, 2), c] [1] else true) = true := by kernel_rfl
theorem f_1_12 : (rtAll.all fun c => bif Nat.ble (rk (3, 1)) (rk c) then ckF [(-3, 2), (3, 1), c] [1] else true) = true := by kernel_rfl
theorem f_3_12 : (rtAll.all fun c => bif Nat.ble (rk (3, 1)) (rk c) then ckF [(-2, 2), (3, 1), c] [1] else true) = true := by kernel_rfl
theorem f_8_12 : (rtAll.all fun c => bif Nat.ble (rk (3, 1)) (rk c) then ckF [(1, 1), (3, 1), c] [1] else true) = true := by kernel_rfl
theorem f2_12 : (rtAll.all fun b => bif Nat.ble (rk (3, 1)) (rk b) then ckF [(3, 1), b] [1] else true) = true := by kernel_rfl
theorem f_7_13 : (rtAll.all fun c => bif Nat.ble (rk (3, 2)) (rk c) then ckF [(0, 2), (3, 2), c] [1] else true) = true := by kernel_rfl
theorem f_12_13 : (rtAll.all fun c => bif Nat.ble (rk (3, 2)) (rk c) then ckF [(3, 1), (3, 2), c] [1] else true) = true := by kernel_rfl
end Go.Proofs.Ytkmompbfcgjgmaa.nt
namespace Go.Proofs.Ytkmompbfcgjgmaa.nt
open Go.GE
set_option linter.unusedVariables false
set_option linter.unusedSimpArgs false
set_option linter.unusedSectionVars false
set_option maxRecDepth 1000000
set_option maxHeartbeats 4000000
theorem f_0_0 : (rtAll.all fun c => bif Nat.ble (rk (-3, 1)) (rk c) then ckF [(-3, 1), (-3, 1), c] [1] else true) = true := by kernel_rfl
theorem f_0_1 : (rtAll.all fun c => bif Nat.ble (rk (-3, 2)) (rk c) then ckF [(-3, 1), (-3, 2), c] [1] else true) = true := by kernel_rfl
theorem f_0_3 : (rtAll.all fun c => bif Nat.ble (rk (-2, 2)) (rk c) then ckF [(-3, 1), (-2, 2), c] [1] else true) = true := by kernel_rfl
theorem f_3_3 : (rtAll.all fun c => bif Nat.ble (rk (-2, 2)) (rk c) then ckF [(-2, 2), (-2, 2), c] [1] else true) = true := by kernel_rfl
theorem f_0_5 : (rtAll.all fun c => bif Nat.ble (rk (-1, 2)) (rk c) then ckF [(-3, 1), (-1, 2), c] [1] else true) = true := by kernel_rfl
theorem f_2_5 : (rtAll.all fun c => bif Nat.ble (rk (-1, 2)) (rk c) then ckF [(-2, 1), (-1, 2), c] [1] else true) = true := by kernel_rfl
theorem f_0_6 : (rtAll.all fun c => bif Nat.ble (rk (0, 1)) (rk c) then ckF [(-3, 1), (0, 1), c] [1] else true) = true := by kernel_rfl
theorem f_5_6 : (rtAll.all fun c => bif Nat.ble (rk (0, 1)) (rk c) then ckF [(-1, 2), (0, 1), c] [1] else true) = true := by kernel_rfl
theorem f_4_7 : (rtAll.all fun c => bif Nat.ble (rk (0, 2)) (rk c) then ckF [(-1, 1), (0, 2), c] [1] else true) = true := by kernel_rfl
theorem f_0_8 : (rtAll.all fun c => bif Nat.ble (rk (1, 1)) (rk c) then ckF [(-3, 1), (1, 1), c] [1] else true) = true := by kernel_rfl
theorem f_3_8 : (rtAll.all fun c => bif Nat.ble (rk (1, 1)) (rk c) then ckF [(-2, 2), (1, 1), c] [1] else true) = true := by kernel_rfl
theorem f_8_8 : (rtAll.all fun c => bif Nat.ble (rk (1, 1)) (rk c) then ckF [(1, 1), (1, 1), c] [1] else true) = true := by kernel_rfl
theorem f_6_9 : (rtAll.all fun c => bif Nat.ble (rk (1, 2)) (rk c) then ckF [(0, 1), (1, 2), c] [1] else true) = true := by kernel_rfl
theorem f_0_10 : (rtAll.all fun c => bif Nat.ble (rk (2, 1)) (rk c) then ckF [(-3, 1), (2, 1), c] [1] else true) = true := by kernel_rfl
theorem f_2_10 : (rtAll.all fun c => bif Nat.ble (rk (2, 1)) (rk c) then ckF [(-2, 1), (2, 1), c] [1] else true) = true := by kernel_rfl
theorem f_7_10 : (rtAll.all fun c => bif Nat.ble (rk (2, 1)) (rk c) then ckF [(0, 2), (2, 1), c] [1] else true) = true := by kernel_rfl
theorem f_0_11 : (rtAll.all fun c => bif Nat.ble (rk (2, 2)) (rk c) then ckF [(-3, 1), (2, 2), c] [1] else true) = true := by kernel_rfl
theorem f_5_11 : (rtAll.all fun c => bif Nat.ble (rk (2, 2)) (rk c) then ckF [(-1, 2), (2, 2), c] [1] else true) = true := by kernel_rfl
theorem f_10_11 : (rtAll.all fun c => bif Nat.ble (rk (2, 2)) (rk c) then ckF [(2, 1), (2, 2), c] [1] else true) = true := by kernel_rfl
theorem f_4_12 : (rtAll.all fun c => bif Nat.ble (rk (3, 1)) (rk c) then ckF [(-1, 1), (3, 1), c] [1] else true) = true := by kernel_rfl
theorem f_9_12 : (rtAll.all fun c => bif Nat.ble (rk (3, 1)) (rk c) then ckF [(1, 2), (3, 1), c] [1] else true) = true := by kernel_rfl
theorem f_0_13 : (rtAll.all fun c => bif Nat.ble (rk (3, 2)) (rk c) then ckF [(-3, 1), (3, 2), c] [1] else true) = true := by kernel_rfl
theorem f_3_13 : (rtAll.all fun c => bif Nat.ble (rk (3, 2)) (rk c) then ckF [(-2, 2), (3, 2), c] [1] else true) = true := by kernel_rfl
theorem f_8_13 : (rtAll.all fun c => bif Nat.ble (rk (3, 2)) (rk c) then ckF [(1, 1), (3, 2), c] [1] else true) = true := by kernel_rfl
theorem f_13_13 : (rtAll.all fun c => bif Nat.ble (rk (3, 2)) (rk c) then ckF [(3, 2), (3, 2), c] [1] else true) = true := by kernel_rfl
end Go.Proofs.Ytkmompbfcgjgmaa.nt
namespace Go.Proofs.Ytkmompbfcgjgmaa.nt
open Go.GE
set_option linter.unusedVariables false
set_option linter.unusedSimpArgs false
set_option linter.unusedSectionVars false
set_option maxRecDepth 1000000
set_option maxHeartbeats 4000000
theorem f2_0 : (rtAll.all fun b => bif Nat.ble (rk (-3, 1)) (rk b) then ckF [(-3, 1), b] [1] else true) = true := by kernel_rfl
theorem f_1_1 : (rtAll.all fun c => bif Nat.ble (rk (-3, 2)) (rk c) then ckF [(-3, 2), (-3, 2), c] [1] else true) = true := by kernel_rfl
theorem f_1_3 : (rtAll.all fun c => bif Nat.ble (rk (-2, 2)) (rk c) then ckF [(-3, 2), (-2, 2), c] [1] else true) = true := by kernel_rfl
theorem f2_3 : (rtAll.all fun b => bif Nat.ble (rk (-2, 2)) (rk b) then ckF [(-2, 2), b] [1] else true) = true := by kernel_rfl
theorem f_1_5 : (rtAll.all fun c => bif Nat.ble (rk (-1, 2)) (rk c) then ckF [(-3, 2), (-1, 2), c] [1] else true) = true := by kernel_rfl
theorem f_3_5 : (rtAll.all fun c => bif Nat.ble (rk (-1, 2)) (rk c) then ckF [(-2, 2), (-1, 2), c] [1] else true) = true := by kernel_rfl
theorem f_1_6 : (rtAll.all fun c => bif Nat.ble (rk (0, 1)) (rk c) then ckF [(-3, 2), (0, 1), c] [1] else true) = true := by kernel_rfl
theorem f_6_6 : (rtAll.all fun c => bif Nat.ble (rk (0, 1)) (rk c) then ckF [(0, 1), (0, 1), c] [1] else true) = true := by kernel_rfl
theorem f_5_7 : (rtAll.all fun c => bif Nat.ble (rk (0, 2)) (rk c) then ckF [(-1, 2), (0, 2), c] [1] else true) = true := by kernel_rfl
theorem f_1_8 : (rtAll.all fun c => bif Nat.ble (rk (1, 1)) (rk c) then ckF [(-3, 2), (1, 1), c] [1] else true) = true := by kernel_rfl
theorem f_4_8 : (rtAll.all fun c => bif Nat.ble (rk (1, 1)) (rk c) then ckF [(-1, 1), (1, 1), c] [1] else true) = true := by kernel_rfl
theorem f2_8 : (rtAll.all fun b => bif Nat.ble (rk (1, 1)) (rk b) then ckF [(1, 1), b] [1] else true) = true := by kernel_rfl
theorem f_7_9 : (rtAll.all fun c => bif Nat.ble (rk (1, 2)) (rk c) then ckF [(0, 2), (1, 2), c] [1] else true) = true := by kernel_rfl
theorem f_1_10 : (rtAll.all fun c => bif Nat.ble (rk (2, 1)) (rk c) then ckF [(-3, 2), (2, 1), c] [1] else true) = true := by kernel_rfl
theorem f_3_10 : (rtAll.all fun c => bif Nat.ble (rk (2, 1)) (rk c) then ckF [(-2, 2), (2, 1), c] [1] else true) = true := by kernel_rfl
theorem f_8_10 : (rtAll.all fun c => bif Nat.ble (rk (2, 1)) (rk c) then ckF [(1, 1), (2, 1), c] [1] else true) = true := by kernel_rfl
theorem f_1_11 : (rtAll.all fun c => bif Nat.ble (rk (2, 2)) (rk c) then ckF [(-3, 2), (2, 2), c] [1] else true) = true := by kernel_rfl
theorem f_6_11 : (rtAll.all fun c => bif Nat.ble (rk (2, 2)) (rk c) then ckF [(0, 1), (2, 2), c] [1] else true) = true := by kernel_rfl
theorem f_11_11 : (rtAll.all fun c => bif Nat.ble (rk (2, 2)) (rk c) then ckF [(2, 2), (2, 2), c] [1] else true) = true := by kernel_rfl
theorem f_5_12 : (rtAll.all fun c => bif Nat.ble (rk (3, 1)) (rk c) then ckF [(-1, 2), (3, 1), c] [1] else true) = true := by kernel_rfl
theorem f_10_12 : (rtAll.all fun c => bif Nat.ble (rk (3, 1)) (rk c) then ckF [(2, 1), (3, 1), c] [1] else true) = true := by kernel_rfl
theorem f_1_13 : (rtAll.all fun c => bif Nat.ble (rk (3, 2)) (rk c) then ckF [(-3, 2), (3, 2), c] [1] else true) = true := by kernel_rfl
theorem f_4_13 : (rtAll.all fun c => bif Nat.ble (rk (3, 2)) (rk c) then ckF [(-1, 1), (3, 2), c] [1] else true) = true := by kernel_rfl
theorem f_9_13 : (rtAll.all fun c => bif Nat.ble (rk (3, 2)) (rk c) then ckF [(1, 2), (3, 2), c] [1] else true) = true := by kernel_rfl
theorem f2_13 : (rtAll.all fun b => bif Nat.ble (rk (3, 2)) (rk b) then ckF [(3, 2), b] [1] else true) = true := by kernel_rfl
end Go.Proofs.Ytkmompbfcgjgmaa.nt
namespace Go.Proofs.Ytkmompbfcgjgmaa.nt
open Go.GE
set_option linter.unusedVariables false
set_option linter.unusedSimpArgs false
set_option linter.unusedSectionVars false
set_option maxRecDepth 1000000
set_option maxHeartbeats 4000000
theorem f1_all : (rtAll.all fun a => ckF [a] [1]) = true := by kernel_rfl
theorem f2_1 : (rtAll.all fun b => bif Nat.ble (rk (-3, 2)) (rk b) then ckF [(-3, 2), b] [1] else true) = true := by kernel_rfl
theorem f_2_3 : (rtAll.all fun c => bif Nat.ble (rk (-2, 2)) (rk c) then ckF [(-2, 1), (-2, 2), c] [1] else true) = true := by kernel_rfl
theorem f_0_4 : (rtAll.all fun c => bif Nat.ble (rk (-1, 1)) (rk c) then ckF [(-3, 1), (-1, 1), c] [1] else true) = true := by kernel_rfl
theorem f_3_4 : (rtAll.all fun c => bif Nat.ble (rk (-1, 1)) (rk c) then ckF [(-2, 2), (-1, 1), c] [1] else true) = true := by kernel_rfl
theorem f_4_5 : (rtAll.all fun c => bif Nat.ble (rk (-1, 2)) (rk c) then ckF [(-1, 1), (-1, 2), c] [1] else true) = true := by kernel_rfl
theorem f_2_6 : (rtAll.all fun c => bif Nat.ble (rk (0, 1)) (rk c) then ckF [(-2, 1), (0, 1), c] [1] else true) = true := by kernel_rfl
theorem f2_6 : (rtAll.all fun b => bif Nat.ble (rk (0, 1)) (rk b) then ckF [(0, 1), b] [1] else true) = true := by kernel_rfl
theorem f_6_7 : (rtAll.all fun c => bif Nat.ble (rk (0, 2)) (rk c) then ckF [(0, 1), (0, 2), c] [1] else true) = true := by kernel_rfl
theorem f_2_8 : (rtAll.all fun c => bif Nat.ble (rk (1, 1)) (rk c) then ckF [(-2, 1), (1, 1), c] [1] else true) = true := by kernel_rfl
theorem f_5_8 : (rtAll.all fun c => bif Nat.ble (rk (1, 1)) (rk c) then ckF [(-1, 2), (1, 1), c] [1] else true) = true := by kernel_rfl
theorem f_0_9 : (rtAll.all fun c => bif Nat.ble (rk (1, 2)) (rk c) then ckF [(-3, 1), (1, 2), c] [1] else true) = true := by kernel_rfl
theorem f_3_9 : (rtAll.all fun c => bif Nat.ble (rk (1, 2)) (rk c) then ckF [(-2, 2), (1, 2), c] [1] else true) = true := by kernel_rfl
theorem f_8_9 : (rtAll.all fun c => bif Nat.ble (rk (1, 2)) (rk c) then ckF [(1, 1), (1, 2), c] [1] else true) = true := by kernel_rfl
theorem f_4_10 : (rtAll.all fun c => bif Nat.ble (rk (2, 1)) (rk c) then ckF [(-1, 1), (2, 1), c] [1] else true) = true := by kernel_rfl
theorem f_9_10 : (rtAll.all fun c => bif Nat.ble (rk (2, 1)) (rk c) then ckF [(1, 2), (2, 1), c] [1] else true) = true := by kernel_rfl
theorem f_2_11 : (rtAll.all fun c => bif Nat.ble (rk (2, 2)) (rk c) then ckF [(-2, 1), (2, 2), c] [1] else true) = true := by kernel_rfl
theorem f_7_11 : (rtAll.all fun c => bif Nat.ble (rk (2, 2)) (rk c) then ckF [(0, 2), (2, 2), c] [1] else true) = true := by kernel_rfl
theorem f2_11 : (rtAll.all fun b => bif Nat.ble (rk (2, 2)) (rk b) then ckF [(2, 2), b] [1] else true) = true := by kernel_rfl
theorem f_6_12 : (rtAll.all fun c => bif Nat.ble (rk (3, 1)) (rk c) then ckF [(0, 1), (3, 1), c] [1] else true) = true := by kernel_rfl
theorem f_11_12 : (rtAll.all fun c => bif Nat.ble (rk (3, 1)) (rk c) then ckF [(2, 2), (3, 1), c] [1] else true) = true := by kernel_rfl
theorem f_2_13 : (rtAll.all fun c => bif Nat.ble (rk (3, 2)) (rk c) then ckF [(-2, 1), (3, 2), c] [1] else true) = true := by kernel_rfl
theorem f_5_13 : (rtAll.all fun c => bif Nat.ble (rk (3, 2)) (rk c) then ckF [(-1, 2), (3, 2), c] [1] else true) = true := by kernel_rfl
theorem f_10_13 : (rtAll.all fun c => bif Nat.ble (rk (3, 2)) (rk c) then ckF [(2, 1), (3, 2), c] [1] else true) = true := by kernel_rfl
end Go.Proofs.Ytkmompbfcgjgmaa.nt
namespace Go.Proofs.Ytkmompbfcgjgmaa.nt
open Go.GE
set_option linter.unusedVariables false
set_option linter.unusedSimpArgs false
set_option linter.unusedSectionVars false
set_option maxRecDepth 1000000
set_option maxHeartbeats 4000000
theorem cnR {S : List (List Int)} {G : List Int} {c0 c1 : Int} {T : List Nat} (h : ckR (toN S) G c0 c1 T = true) :
    0 ≤ upV S 10400 ∧ (1 < G.length → c0.natAbs ≤ 32 ∧ c1.natAbs ≤ 4 ∧ 1 ≤ (vAt S (-52) 1 : Int) - (vAt S (-c0) c1 : Nat) ∧ (vAt S (-52) 1 : Int) - (vAt S (-c0) c1 : Nat) ≤ upV S 10400) ∧
    ∃ L : List (Nat × Nat), fdT 3 T L = true ∧ L.length ≤ 10 ∧ (bif Nat.ble 2 G.length then (rtsF S (upV S 10400).toNat 0 []).set (((vAt S (-52) 1 : Int) - (vAt S (-c0) c1 : Nat)).toNat - 1) (((rtsF S (upV S 10400).toNat 0 []).getD (((vAt S (-52) 1 : Int) - (vAt S (-c0) c1 : Nat)).toNat - 1) (0, 0)).1, (G.length : Int)) else rtsF S (upV S 10400).toNat 0 []) = L.map cv := by
  have h : (Nat.ble (chY 100 10400 5200 (toN S) 0 0) (chY 1 0 52 (toN S) 0 0) && (bif Nat.ble 2 G.length then
      (decide (0 ≤ c1) && decide (c0.natAbs ≤ 32) && decide (c1.natAbs ≤ 4) && Nat.blt (chY c1.toNat (-c0).toNat c0.toNat (toN S) 0 0) (chY 1 0 52 (toN S) 0 0) && Nat.ble (chY 100 10400 5200 (toN S) 0 0) (chY c1.toNat (-c0).toNat c0.toNat (toN S) 0 0) &&
        (fdT 3 T (setN (Nat.sub (Nat.sub (chY 1 0 52 (toN S) 0 0) (chY c1.toNat (-c0).toNat c0.toNat (toN S) 0 0)) 1) G.length (rtN (toN S) (chY 1 0 52 (toN S) 0 0) (Nat.sub (chY 1 0 52 (toN S) 0 0) (chY 100 10400 5200 (toN S) 0 0)) 0)) && Nat.ble (setN (Nat.sub (Nat.sub (chY 1 0 52 (toN S) 0 0) (chY c1.toNat (-c0).toNat c0.toNat (toN S) 0 0)) 1) G.length (rtN (toN S) (chY 1 0 52 (toN S) 0 0) (Nat.sub (chY 1 0 52 (toN S) 0 0) (chY 100 10400 5200 (toN S) 0 0)) 0)).length 10))
      else fdT 3 T (rtN (toN S) (chY 1 0 52 (toN S) 0 0) (Nat.sub (chY 1 0 52 (toN S) 0 0) (chY 100 10400 5200 (toN S) 0 0)) 0) && Nat.ble (rtN (toN S) (chY 1 0 52 (toN S) 0 0) (Nat.sub (chY 1 0 52 (toN S) 0 0) (chY 100 10400 5200 (toN S) 0 0)) 0).length 10)) = true := h
  have e0 : chY 1 0 52 (toN S) 0 0 = vAt S (-52) 1 := chY_vAt
  have e1 : chY 100 10400 5200 (toN S) 0 0 = vAt S 5200 100 := chY_vAt
  rw [Bool.and_eq_true, e0, e1] at h
  obtain ⟨h1, h2⟩ := h
  have h1 := Nat.le_of_ble_eq_true h1
  have eu : upV S 10400 = (vAt S (-52) 1 : Int) - (vAt S 5200 100 : Nat) := rfl
  have es : ∀ a b : Nat, Nat.sub a b = a - b := fun _ _ => rfl
  simp only [es] at h2
  have hR := rtsF_N (S := S) (v0 := vAt S (-52) 1) rfl (upV S 10400).toNat 0 []
  rw [List.nil_append] at hR
  have eq : (upV S 10400).toNat = vAt S (-52) 1 - vAt S 5200 100 := by rw [eu]; omega
  rw [hR, eq]
  rw [eu]
  generalize rtN (toN S) (vAt S (-52) 1) (vAt S (-52) 1 - vAt S 5200 100) 0 = M at *
  refine ⟨by omega, ?_, ?_⟩
  · intro hG
    have hb : Nat.ble 2 G.length = true := by rw [Nat.ble_eq]; omega
    rw [hb, cond_true] at h2
    simp only [Bool.and_eq_true, decide_eq_true_eq] at h2
    obtain ⟨⟨⟨⟨⟨a1, a2⟩, a3⟩, a4⟩, a5⟩, a6⟩ := h2
    have ew : chY c1.toNat (-c0).toNat c0.toNat (toN S) 0 0 = vAt S (-c0) c1 := by
      rw [chY_vAt, show (((-c0).toNat : Nat) : Int) - (c0.toNat : Nat) = -c0 by omega, show ((c1.toNat : Nat) : Int) = c1 by omega]
    rw [ew] at a4 a5
    rw [nblt, decide_eq_true_eq] at a4
    have a5 := Nat.le_of_ble_eq_true a5
    exact ⟨a2, a3, by omega, by omega⟩
  · cases hb : Nat.ble 2 G.length
    · rw [hb, cond_false, Bool.and_eq_true] at h2
      exact ⟨M, h2.1, Nat.le_of_ble_eq_true h2.2, rfl⟩
    · rw [hb, cond_true] at h2
      simp only [Bool.and_eq_true, decide_eq_true_eq] at h2
      obtain ⟨⟨⟨⟨⟨a1, a2⟩, a3⟩, a4⟩, a5⟩, a6⟩ := h2
      have ew : chY c1.toNat (-c0).toNat c0.toNat (toN S) 0 0 = vAt S (-c0) c1 := by
        rw [chY_vAt, show (((-c0).toNat : Nat) : Int) - (c0.toNat : Nat) = -c0 by omega, show ((c1.toNat : Nat) : Int) = c1 by omega]
      rw [ew] at a4 a6
      rw [nblt, decide_eq_true_eq] at a4
      refine ⟨_, a6.1, Nat.le_of_ble_eq_true a6.2, ?_⟩
      rw [cond_true, ← set_N]
      rw [show ((vAt S (-52) 1 : Int) - (vAt S (-c0) c1 : Nat)).toNat = vAt S (-52) 1 - vAt S (-c0) c1 by omega]
theorem rt_of {P Q : List Int} {T : List Nat} {R : List (Int × Int)} (hR : ∀ r, r ∈ R → okRt r) (hT : R.map tNr = T) (hE : chkE Q = 0) (hB : stuB Q = true) (hS : stu Q = stu P) (hb : bndS (stu P) = true) (hF : bnF (stu P) = true) (hG : ckG Q = true) (hl : (corG Q).length = (corG P).length) (hc : cor (corG Q) = cor (corG P)) (h : ckR (toN (stu P)) (corG P) ((cor (corG P)).getD 0 0) ((cor (corG P)).getD 1 0) T = true) :
    RtB Q ∧ fdC 3 R (rootsF Q) = true ∧ (rootsF Q).length ≤ 10 := by
  obtain ⟨h1, h2, L, f1, f2, f3⟩ := cnR h
  have eM : moreK Q = (vAt (stu P) (-52) 1 : Int) - (vAt (stu P) (-((cor (corG P)).getD 0 0)) ((cor (corG P)).getD 1 0) : Nat) := by unfold moreK; rw [hS, hc]
  have eR : rootsF Q = L.map cv := by
    rw [← f3, ← eM, ← hl]
    unfold rootsF
    rw [hS]
  refine ⟨⟨hE, hB, ?_, ?_, ?_, ?_⟩, ?_, ?_⟩
  · rw [hS]; exact evA_big hb hF (by decide) (by decide)
  · intro n hn; rw [hS]; exact evA_big hb hF (by omega) (by decide)
  · rw [hS]; exact h1
  · intro hg
    rw [hl] at hg
    obtain ⟨a1, a2, a3, a4⟩ := h2 hg
    have hG : (bif Nat.ble 2 (corG Q).length then corB (corG Q) && Nat.ble 2 (cor (corG Q)).length else true) = true := hG
    rw [show Nat.ble 2 (corG Q).length = true by rw [Nat.ble_eq]; omega, cond_true, Bool.and_eq_true] at hG
    refine ⟨hG.1, Nat.le_of_ble_eq_true hG.2, ?_, ?_, ?_⟩
    · rw [hS, hc]; exact evA_small hb (by omega) a2
    · rw [eM]; exact a3
    · rw [eM, hS]; exact a4
  · rw [eR]; subst hT; exact fdC_T 3 R L hR f1
  · rw [eR, List.length_map]; exact f2
theorem shape_any {K : List (Int × Int) → List Int → Prop} (k1 : ∀ a, a ∈ rtAll → K [a] [1]) (k2 : ∀ a b, a ∈ rtAll → b ∈ rtAll → K (srt2 a b) [1]) (k3 : ∀ a b c, a ∈ rtAll → b ∈ rtAll → c ∈ rtAll → K (srt3 a b c) [1]) (kB : K [] [2, 0, 1] ∧ ∀ a, a ∈ rtAll → K [a] [2, 0, 1]) (kC : K [] [1, 1, 1] ∧ ∀ a, a ∈ rtAll → K [a] [1, 1, 1]) (r0 s0 r1 s1 r2 s2 : Int) (n : Nat) (o : Bool) (g : Int) : ∃ (l : List (Int × Int)) (base : List Int), fldP l base = fldP (shL r0 s0 r1 s1 r2 s2 n o) (shB0 o g) ∧ (shQ r0 s0 r1 s1 r2 s2 n o).map tNr = (fldR l []).map tNr ∧ K l base := by
  have h0 := rt_mem (shR_ok r0 s0)
  have h1 := rt_mem (shR_ok r1 s1)
  have h2 := rt_mem (shR_ok r2 s2)
  unfold shQ
  cases o
  · have eb : shB0 false g = [1] := rfl
    rw [eb]
    rcases (by omega : n % 3 = 0 ∨ n % 3 = 1 ∨ n % 3 = 2) with hc | hc | hc
    · have e : shL r0 s0 r1 s1 r2 s2 n false = [shR r0 s0] := by unfold shL shC; rw [cond_false, hc]; rfl
      rw [e]
      exact ⟨_, _, rfl, rfl, k1 _ h0⟩
    · have e : shL r0 s0 r1 s1 r2 s2 n false = [shR r0 s0, shR r1 s1] := by unfold shL shC; rw [cond_false, hc]; rfl
      rw [e]
      have := all_mem (all_mem pm2_all h0) h1
      unfold pm2 at this
      rw [Bool.and_eq_true] at this
      exact ⟨_, _, (eqL_eq this.1).symm, eqN_eq this.2, k2 _ _ h0 h1⟩
    · have e : shL r0 s0 r1 s1 r2 s2 n false = [shR r0 s0, shR r1 s1, shR r2 s2] := by unfold shL shC; rw [cond_false, hc]; rfl
      rw [e]
      have := all_mem (all_mem (pm_all _ h0) h1) h2
      unfold pm3 at this
      rw [Bool.and_eq_true] at this
      exact ⟨_, _, (eqL_eq this.1).symm, eqN_eq this.2, k3 _ _ _ h0 h1 h2⟩
  · have hb : ∃ base, shB0 true g = base ∧ K [] base ∧ ∀ a, a ∈ rtAll → K [a] base := by
      unfold shB0
      rw [cond_true]
      cases decide (g.tmod 2 = 0)
      · exact ⟨_, rfl, kC⟩
      · exact ⟨_, rfl, kB⟩
    obtain ⟨base, eb, b0, b1⟩ := hb
    rw [eb]
    rcases (by omega : n % 2 = 0 ∨ n % 2 = 1) with hc | hc
    · have e : shL r0 s0 r1 s1 r2 s2 n true = [] := by unfold shL shC; rw [cond_true, hc]; rfl
      rw [e]
      exact ⟨_, _, rfl, rfl, b0⟩
    · have e : shL r0 s0 r1 s1 r2 s2 n true = [shR r0 s0] := by unfold shL shC; rw [cond_true, hc]; rfl
      rw [e]
      exact ⟨_, _, rfl, rfl, b1 _ h0⟩
def fOf (a b : Int × Int) : Bool := rtAll.all fun c => bif Nat.ble (rk b) (rk c) then ckF [a, b, c] [1] else true
def f2Of (a : Int × Int) : Bool := rtAll.all fun b => bif Nat.ble (rk a) (rk b) then ckF [a, b] [1] else true
theorem f_all : ∀ a, a ∈ rtAll → ∀ b, b ∈ rtAll → Nat.ble (rk a) (rk b) = true → fOf a b = true := by
  intro a ha b hb h
  simp only [rtAll, List.mem_cons, List.not_mem_nil, or_false] at ha hb
  rcases ha with rfl | rfl | rfl | rfl | rfl | rfl | rfl | rfl | rfl | rfl | rfl | rfl | rfl | rfl
  · rcases hb with rfl | rfl | rfl | rfl | rfl | rfl | rfl | rfl | rfl | rfl | rfl | rfl | rfl | rfl
    · exact f_0_0
    · exact f_0_1
    · exact f_0_2
    · exact f_0_3
    · exact f_0_4
    · exact f_0_5
    · exact f_0_6
    · exact f_0_7
    · exact f_0_8
    · exact f_0_9
    · exact f_0_10
    · exact f_0_11
    · exact f_0_12
    · exact f_0_13
  · rcases hb with rfl | rfl | rfl | rfl | rfl | rfl | rfl | rfl | rfl | rfl | rfl | rfl | rfl | rfl
    · exact absurd h (by decide)
    · exact f_1_1
    · exact f_1_2
    · exact f_1_3
    · exact f_1_4
    · exact f_1_5
    · exact f_1_6
    · exact f_1_7
    · exact f_1_8
    · exact f_1_9
    · exact f_1_10
    · exact f_1_11
    · exact f_1_12
    · exact f_1_13
  · rcases hb with rfl | rfl | rfl | rfl | rfl | rfl | rfl | rfl | rfl | rfl | rfl | rfl | rfl | rfl
    · exact absurd h (by decide)
    · exact absurd h (by decide)
    · exact f_2_2
    · exact f_2_3
    · exact f_2_4
    · exact f_2_5
    · exact f_2_6
    · exact f_2_7
    · exact f_2_8
    · exact f_2_9
    · exact f_2_10
    · exact f_2_11
    · exact f_2_12
    · exact f_2_13
  · rcases hb with rfl | rfl | rfl | rfl | rfl | rfl | rfl | rfl | rfl | rfl | rfl | rfl | rfl | rfl
    · exact absurd h (by decide)
    · exact absurd h (by decide)
    · exact absurd h (by decide)
    · exact f_3_3
    · exact f_3_4
    · exact f_3_5
    · exact f_3_6
    · exact f_3_7
    · exact f_3_8
    · exact f_3_9
    · exact f_3_10
    · exact f_3_11
    · exact f_3_12
    · exact f_3_13
  · rcases hb with rfl | rfl | rfl | rfl | rfl | rfl | rfl | rfl | rfl | rfl | rfl | rfl | rfl | rfl
    · exact absurd h (by decide)
    · exact absurd h (by decide)
    · exact absurd h (by decide)
    · exact absurd h (by decide)
    · exact f_4_4
    · exact f_4_5
    · exact f_4_6
    · exact f_4_7
    · exact f_4_8
    · exact f_4_9
    · exact f_4_10
    · exact f_4_11
    · exact f_4_12
    · exact f_4_13
  · rcases hb with rfl | rfl | rfl | rfl | rfl | rfl | rfl | rfl | rfl | rfl | rfl | rfl | rfl | rfl
    · exact absurd h (by decide)
    · exact absurd h (by decide)
    · exact absurd h (by decide)
    · exact absurd h (by decide)
    · exact absurd h (by decide)
    · exact f_5_5
    · exact f_5_6
    · exact f_5_7
    · exact f_5_8
    · exact f_5_9
    · exact f_5_10
    · exact f_5_11
    · exact f_5_12
    · exact f_5_13
  · rcases hb with rfl | rfl | rfl | rfl | rfl | rfl | rfl | rfl | rfl | rfl | rfl | rfl | rfl | rfl
    · exact absurd h (by decide)
    · exact absurd h (by decide)
    · exact absurd h (by decide)
    · exact absurd h (by decide)
    · exact absurd h (by decide)
    · exact absurd h (by decide)
    · exact f_6_6
    · exact f_6_7
    · exact f_6_8
    · exact f_6_9
    · exact f_6_10
    · exact f_6_11
    · exact f_6_12
    · exact f_6_13
  · rcases hb with rfl | rfl | rfl | rfl | rfl | rfl | rfl | rfl | rfl | rfl | rfl | rfl | rfl | rfl
    · exact absurd h (by decide)
    · exact absurd h (by decide)
    · exact absurd h (by decide)
    · exact absurd h (by decide)
    · exact absurd h (by decide)
    · exact absurd h (by decide)
    · exact absurd h (by decide)
    · exact f_7_7
    · exact f_7_8
    · exact f_7_9
    · exact f_7_10
    · exact f_7_11
    · exact f_7_12
    · exact f_7_13
  · rcases hb with rfl | rfl | rfl | rfl | rfl | rfl | rfl | rfl | rfl | rfl | rfl | rfl | rfl | rfl
    · exact absurd h (by decide)
    · exact absurd h (by decide)
    · exact absurd h (by decide)
    · exact absurd h (by decide)
    · exact absurd h (by decide)
    · exact absurd h (by decide)
    · exact absurd h (by decide)
    · exact absurd h (by decide)
    · exact f_8_8
    · exact f_8_9
    · exact f_8_10
    · exact f_8_11
    · exact f_8_12
    · exact f_8_13
  · rcases hb with rfl | rfl | rfl | rfl | rfl | rfl | rfl | rfl | rfl | rfl | rfl | rfl | rfl | rfl
    · exact absurd h (by decide)
    · exact absurd h (by decide)
    · exact absurd h (by decide)
    · exact absurd h (by decide)
    · exact absurd h (by decide)
    · exact absurd h (by decide)
    · exact absurd h (by decide)
    · exact absurd h (by decide)
    · exact absurd h (by decide)
    · exact f_9_9
    · exact f_9_10
    · exact f_9_11
    · exact f_9_12
    · exact f_9_13
  · rcases hb with rfl | rfl | rfl | rfl | rfl | rfl | rfl | rfl | rfl | rfl | rfl | rfl | rfl | rfl
    · exact absurd h (by decide)
    · exact absurd h (by decide)
    · exact absurd h (by decide)
    · exact absurd h (by decide)
    · exact absurd h (by decide)
    · exact absurd h (by decide)
    · exact absurd h (by decide)
    · exact absurd h (by decide)
    · exact absurd h (by decide)
    · exact absurd h (by decide)
    · exact f_10_10
    · exact f_10_11
    · exact f_10_12
    · exact f_10_13
  · rcases hb with rfl | rfl | rfl | rfl | rfl | rfl | rfl | rfl | rfl | rfl | rfl | rfl | rfl | rfl
    · exact absurd h (by decide)
    · exact absurd h (by decide)
    · exact absurd h (by decide)
    · exact absurd h (by decide)
    · exact absurd h (by decide)
    · exact absurd h (by decide)
    · exact absurd h (by decide)
    · exact absurd h (by decide)
    · exact absurd h (by decide)
    · exact absurd h (by decide)
    · exact absurd h (by decide)
    · exact f_11_11
    · exact f_11_12
    · exact f_11_13
  · rcases hb with rfl | rfl | rfl | rfl | rfl | rfl | rfl | rfl | rfl | rfl | rfl | rfl | rfl | rfl
    · exact absurd h (by decide)
    · exact absurd h (by decide)
    · exact absurd h (by decide)
    · exact absurd h (by decide)
    · exact absurd h (by decide)
    · exact absurd h (by decide)
    · exact absurd h (by decide)
    · exact absurd h (by decide)
    · exact absurd h (by decide)
    · exact absurd h (by decide)
    · exact absurd h (by decide)
    · exact absurd h (by decide)
    · exact f_12_12
    · exact f_12_13
  · rcases hb with rfl | rfl | rfl | rfl | rfl | rfl | rfl | rfl | rfl | rfl | rfl | rfl | rfl | rfl
    · exact absurd h (by decide)
    · exact absurd h (by decide)
    · exact absurd h (by decide)
    · exact absurd h (by decide)
    · exact absurd h (by decide)
    · exact absurd h (by decide)
    · exact absurd h (by decide)
    · exact absurd h (by decide)
    · exact absurd h (by decide)
    · exact absurd h (by decide)
    · exact absurd h (by decide)
    · exact absurd h (by decide)
    · exact absurd h (by decide)
    · exact f_13_13
theorem f2_all : ∀ a, a ∈ rtAll → f2Of a = true := by
  intro a ha
  simp only [rtAll, List.mem_cons, List.not_mem_nil, or_false] at ha
  rcases ha with rfl | rfl | rfl | rfl | rfl | rfl | rfl | rfl | rfl | rfl | rfl | rfl | rfl | rfl
  · exact f2_0
  · exact f2_1
  · exact f2_2
  · exact f2_3
  · exact f2_4
  · exact f2_5
  · exact f2_6
  · exact f2_7
  · exact f2_8
  · exact f2_9
  · exact f2_10
  · exact f2_11
  · exact f2_12
  · exact f2_13
theorem ff3 {a b c : Int × Int} (ha : a ∈ rtAll) (hb : b ∈ rtAll) (hc : c ∈ rtAll) (h1 : Nat.ble (rk a) (rk b) = true) (h2 : Nat.ble (rk b) (rk c) = true) : ckF [a, b, c] [1] = true := by
  have := all_mem (f_all a ha b hb h1) hc
  rw [h2, cond_true] at this
  exact this
theorem ff2 {a b : Int × Int} (ha : a ∈ rtAll) (hb : b ∈ rtAll) (h1 : Nat.ble (rk a) (rk b) = true) : ckF [a, b] [1] = true := by
  have := all_mem (f2_all a ha) hb
  rw [h1, cond_true] at this
  exact this
theorem ff_srt3 {a b c : Int × Int} (ha : a ∈ rtAll) (hb : b ∈ rtAll) (hc : c ∈ rtAll) : ckF (srt3 a b c) [1] = true := by
  unfold srt3
  cases h1 : Nat.ble (rk a) (rk b)
  · have h1' := ble_tot h1
    cases h2 : Nat.ble (rk a) (rk c)
    · have h2' := ble_tot h2
      cases h3 : Nat.ble (rk b) (rk c)
      · simp only [cond_false]; exact ff3 hc hb ha (ble_tot h3) h1'
      · simp only [cond_false, cond_true]; exact ff3 hb hc ha h3 h2'
    · simp only [cond_false, cond_true]; exact ff3 hb ha hc h1' h2
  · cases h2 : Nat.ble (rk b) (rk c)
    · have h2' := ble_tot h2
      cases h3 : Nat.ble (rk a) (rk c)
      · simp only [cond_false, cond_true]; exact ff3 hc ha hb (ble_tot h3) h1
      · simp only [cond_false, cond_true]; exact ff3 ha hc hb h3 h2'
    · simp only [cond_true]; exact ff3 ha hb hc h1 h2
theorem ff_srt2 {a b : Int × Int} (ha : a ∈ rtAll) (hb : b ∈ rtAll) : ckF (srt2 a b) [1] = true := by
  unfold srt2
  cases h1 : Nat.ble (rk a) (rk b)
  · simp only [cond_false]; exact ff2 hb ha (ble_tot h1)
  · simp only [cond_true]; exact ff2 ha hb h1
theorem shape_F (r0 s0 r1 s1 r2 s2 : Int) (n : Nat) (o : Bool) (g : Int) : ∃ (l : List (Int × Int)) (base : List Int), fldP l base = fldP (shL r0 s0 r1 s1 r2 s2 n o) (shB0 o g) ∧ (shQ r0 s0 r1 s1 r2 s2 n o).map tNr = (fldR l []).map tNr ∧ ckA l base = true ∧ ckF l base = true := by
  have hB := qB_all
  have hC := qC_all
  have gB := fB_all
  have gC := fC_all
  rw [Bool.and_eq_true] at hB hC gB gC
  exact shape_any (K := fun l base => ckA l base = true ∧ ckF l base = true) (fun a ha => ⟨all_mem q1_all ha, all_mem f1_all ha⟩) (fun a b ha hb => ⟨ck_srt2 ha hb, ff_srt2 ha hb⟩) (fun a b c ha hb hc => ⟨ck_srt3 ha hb hc, ff_srt3 ha hb hc⟩)
    ⟨⟨hB.2, gB.2⟩, fun a ha => ⟨all_mem hB.1 ha, all_mem gB.1 ha⟩⟩ ⟨⟨hC.2, gC.2⟩, fun a ha => ⟨all_mem hC.1 ha, all_mem gC.1 ha⟩⟩ r0 s0 r1 s1 r2 s2 n o g
section
variable (r0 s0 r1 s1 r2 s2 : Int) (n : Nat) (o : Bool) (g : Int) (h8 : I8 r0 ∧ I8 s0 ∧ I8 r1 ∧ I8 s1 ∧ I8 r2 ∧ I8 s2 ∧ I8 g) (hn : n < 256)
include h8 hn
theorem c7w : LL.run 7 [shV r0 s0 r1 s1 r2 s2 n o g] [] = some ⟨.bool true, [], []⟩ := by
  refine c7 r0 s0 r1 s1 r2 s2 n o g h8 hn fun hok => ?_
  obtain ⟨l, base, hP, hR, hA, hF⟩ := shape_F r0 s0 r1 s1 r2 s2 n o g
  have hRo := shQ_ok (r0 := r0) (s0 := s0) (r1 := r1) (s1 := s1) (r2 := r2) (s2 := s2) (n := n) (o := o)
  have eP : shP r0 s0 r1 s1 r2 s2 n o g = negP g (fldP l base) := by unfold shP; rw [hP]
  rw [eP] at hok ⊢
  generalize shQ r0 s0 r1 s1 r2 s2 n o = R at *
  clear eP hP
  rw [okP_neg] at hok
  have hA : (bif okP (fldP l base) then ckS (fldP l base) ((fldR l []).map tNr) && ckN (fldP l base) else true) = true := hA
  have hF : (bif okP (fldP l base) then bnF (stu (fldP l base)) && ckG (fldP l base) && ckG (ngP (fldP l base)) && decide ((corG (ngP (fldP l base))).length = (corG (fldP l base)).length) && decide (cor (corG (ngP (fldP l base))) = cor (corG (fldP l base))) && ckR (toN (stu (fldP l base))) (corG (fldP l base)) ((cor (corG (fldP l base))).getD 0 0) ((cor (corG (fldP l base))).getD 1 0) ((fldR l []).map tNr) else true) = true := hF
  rw [hok, cond_true] at hA hF
  generalize fldP l base = P at *
  rw [Bool.and_eq_true] at hA
  obtain ⟨hA, hN⟩ := hA
  have hA : (decide (chkE P = 0) && stuB P && fouB P && bndS (stu P) && bndS (fou P) && scA (toN (stu P)) (toN (fou P)) ((fldR l []).map tNr)) = true := hA
  have hN : (decide (chkE (ngP P) = 0) && stuB (ngP P) && fouB (ngP P) && bndS (fou (ngP P)) && decide (stu (ngP P) = stu P)) = true := hN
  simp only [Bool.and_eq_true, decide_eq_true_eq] at hA hN hF
  obtain ⟨⟨⟨⟨⟨a1, a2⟩, a3⟩, a4⟩, a5⟩, a6⟩ := hA
  obtain ⟨⟨⟨⟨n1, n2⟩, n3⟩, n4⟩, n5⟩ := hN
  obtain ⟨⟨⟨⟨⟨f1, f2⟩, f3⟩, f4⟩, f5⟩, f6⟩ := hF
  unfold negP
  cases decide (g < 0)
  · exact rt_of hRo hR a1 a2 rfl a4 f1 f2 rfl rfl f6
  · rw [cond_true]
    exact rt_of (P := P) (Q := ngP P) hRo hR n1 n2 n5 a4 f1 f3 f4 f5 f6
end
end Go.Proofs.Ytkmompbfcgjgmaa.nt
