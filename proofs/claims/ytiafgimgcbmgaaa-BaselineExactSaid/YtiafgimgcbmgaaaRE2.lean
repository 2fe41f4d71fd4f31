/-
  Contracts of functions of the program at the limit evaluator, continued. No condition.
-/
import Derived.Test.YtiafgimgcbmgaaaRE1
import Derived.OpenShut
import Derived.Test.YtiafgimgcbmgaaaE28
import Derived.Test.YtiafgimgcbmgaaaE38
import Derived.Test.YtiafgimgcbmgaaaE39
import Derived.Test.YtiafgimgcbmgaaaE40
namespace Go.Proofs.Ytiafgimgcbmgaaa.bl
open Go.GE
set_option linter.unusedVariables false
set_option linter.unusedSimpArgs false
set_option maxRecDepth 100000
set_option maxHeartbeats 4000000
attribute [local simp] runOps_nil runOps_cons runOpsF_nil runOpsF_cons fstS_some fstF_some opStep_eq want_none oStep_true oStep_false fin_pure fin_read fin_alloc fin_write storeB wrN cellV addWr o_move o_assign o_pick o_alloc o_box o_load o_store o_nilCheck o_bin o_un o_extract o_callV o_callB o_callI callV_f callV_y callV_fc o_makeFunc partsA Instr.fill builtin_len builtin_max2 bin_add bin_sub bin_mul bin_quo bin_rem bin_lss bin_leq bin_gtr bin_geq bin_eql bin_neq un_neg un_not bin_shr bin_shl wrap_u64_id opd opds optAll putO nbeq nblt constOk isC ops sub cl cr co bodyOf thenS_normal thenS_ret thenS_exit thenS_goto afterN_normal afterN_ret afterN_exit afterN_goto condS_true condS_false blockS_normal blockS_ret blockS_exit blockS_goto headS normS normK_eq fixS_nil fixS_cons fix1 fixV emptyB keepO_nil keepO_cons roundC_normal roundC_exit roundC_ret roundC_goto sweep_eq sweepD rnm pickR pickW rootsB ptrT renT ptrFn renFn ptrB_flat ptrB_non renB_flat renB_non plainS_some drawS_some fpsOk disj unord range' dropTo enumT undef wrap_i64_id Value.cells mkCells ptrTo scal cellsAt rdN endS_ret resultsA Option.bind_some tupV finish reachN dep ptrL_eq ptrL renL_eq renL ptrV_bool ptrV_int ptrV_string ptrV_nilFunc ptrV_nilIface ptrV_nilPtr ptrV_ptr ptrV_nilSl ptrV_sl ptrV_iface ptrV_agg ptrV_tuple ptrV_func renV_bool renV_int renV_string renV_nilFunc renV_nilIface renV_nilPtr renV_ptr renV_nilSl renV_sl renV_iface renV_agg renV_tuple renV_func gotoS_goto gotoS_normal gotoS_exit gotoS_ret skip_seq sliceE bnd bndHi intOf optOpd keepT_nil keepT_cons keepC_t keepC_f lk_nil lk_cons lkC_t lkC_f has_nil has_cons hasC_t hasC_f rep_nil rep_cons repC_t repC_f put_eq putC_t putC_f mem_nil mem_cons memC_t memC_f idx_nil idx_cons idxC_t idxC_f reach_nil reach_cons reachC_t reachC_f
attribute [local simp] n8_1s n8_3s n8_5s n8_7s n8_9s n8_11s n8_13s n8_16s n8_19s n8_20s n8_18s n8_21s n8_17s n8_15s n8_24s n8_27s n8_28s n8_26s n8_29s n8_25s n8_23s n8_31s n8_34s n8_38s n8_41s n8_42s n8_40s n8_46s n8_48s n8_51s n8_55s n8_58s n8_59s n8_57s n8_63s n8_64s n8_62s n8_61s n8_65s n8_60s n8_56s n8_54s n8_53s n8_53g n8_52s n8_50s n8_67s n8_70s n8_73s n8_74s n8_72s n8_75s n8_71s n8_69s n8_78s n8_80s n8_81s n8_79s n8_77s n8_83s n8_86s n8_90s n8_93s n8_94s n8_92s n8_98s n8_99s n8_97s n8_96s n8_100s n8_95s n8_91s n8_89s n8_88s n8_88g n8_87s n8_85s n8_102s n8_104s n8_107s n8_108s n8_106s n8_109s n8_105s n8_103s n8_101s n8_84s n8_82s n8_76s n8_68s n8_66s n8_49s n8_47s n8_45s n8_44s n8_110s n8_43s n8_39s n8_37s n8_36s n8_36g n8_35s n8_33s n8_113s n8_116s n8_117s n8_115s n8_118s n8_114s n8_112s n8_121s n8_124s n8_125s n8_123s n8_126s n8_122s n8_120s n8_129s n8_134s n8_136s n8_137s n8_135s n8_133s n8_141s n8_144s n8_145s n8_143s n8_146s n8_142s n8_140s n8_139s n8_147s n8_138s n8_132s n8_131s n8_131g n8_130s n8_128s n8_149s n8_150s n8_148s n8_127s n8_119s n8_111s n8_32s n8_30s n8_22s n8_14s n8_12s n8_10s n8_8s n8_6s n8_4s n8_2s n8_0s Try.f8
section
variable (r f : Int) (N : Nat) (h : Nat) (E lo hi : Int) {cs : List Value} {own : Bool} (M : List Value) (T H : List Int) (Tb : Nat → Nat → Bool)
theorem l8_2 (hT : T.length ≤ 9) (i : Nat) (a : Ab) (nr : Bool) : ∀ q j : Nat, j + q = T.length → ∀ x : Bool,
    lpB Try.prog LL ⟨8, 279, 1, none⟩ n8_53 n8_54 ⟨[(16, iv i), (17, pp 1), (18, .bool x), (89, wh 2 T.length), (90, iv T.length), (91, iv j), (7, pp 3), (8, wh 2 T.length), (9, iv h), (10, pp 5), (11, pp 6), (12, iv E), (13, wh 7 H.length), (15, .bool nr), (82, wh 4 N), (83, iv N), (84, iv i)],
      [.cells cs 3 true own, abB a, iB T, shB r f 4 0 N N, .cells M 3 true true, .cells (bT Tb) 1 true true, spB lo hi, iB H], []⟩ =
      some (.exit 2, ⟨[(16, iv i), (17, pp 1), (18, .bool (x || anyF (fun j => decide (inAt T j < a.h) != decide (inAt T j < h)) q j)), (7, pp 2), (8, wh 4 T.length), (9, iv h), (10, pp 5), (11, pp 6), (12, iv E), (13, wh 7 H.length), (15, .bool nr), (82, wh 3 N), (83, iv N), (84, iv i)],
      [.cells cs 3 true own, abB a, shB r f 3 0 N N, .cells M 3 true true, iB T, .cells (bT Tb) 1 true true, spB lo hi, iB H], []⟩) := by
  intro q
  induction q with
  | zero =>
    intro j hj x
    obtain rfl : j = T.length := by omega
    rw [lpB_eq]
    simp only [iB]
    simp (maxSteps := 1000000) (disch := first | omega | decide | assumption | simp [scal]) [loadA_eq ia_75, za_24, sz_24, o_convI cv_50_3, o_convI cv_5_3, loadA_eq ia_24, za_80, sz_80, za_57, sz_57, o_indexAddrA ea_80, loadA_eq ia_79, lenA_sl lk_25, o_fieldAddr fa_24_2 (by decide), loadA_eq ia_22, lenA_sl lk_22, o_indexAddrS es_22, loadA_eq ia_59, za_59, sz_59, o_indexAddrS es_25, loadA_eq ia_3, o_fieldAddr fa_59_0 (by decide), o_fieldAddr fa_59_1 (by decide), o_fieldAddr fa_57_0 (by decide), o_fieldAddr fa_57_1 (by decide), o_indexAddrA ea_79, loadA_eq ia_4, o_fieldAddr fa_24_0 (by decide), o_fieldAddr fa_24_1 (by decide), loadA_eq ia_80, loadA_eq ia_57, want_some q8_19g2, want_some q8_19g6, want_some q8_19g11, want_some q8_24g2, want_some q8_64g1, want_some q8_67g1, want_some q8_70g8, want_some q8_70g18, want_some q8_70g31, want_some q8_70g40, want_some q8_99g1, want_some q8_99g11, want_some q8_104g2, want_some q8_104g18, want_some q8_116g2, want_some q8_141g10, want_some q8_141g18, want_some q8_141g22, anyF]
  | succ q ih =>
    intro j hj x
    have e1 : j < T.length := by omega
    have e2 : (j : Int) < T.length := by omega
    have this := ih (j + 1) (by omega)
    have g : (T.map iv)[j]? = some (iv (inAt T j)) := by simp [inAt, e1]
    simp only [anyF]
    generalize anyF (fun j => decide (inAt T j < a.h) != decide (inAt T j < h)) q (j + 1) = Y at *
    simp only [iB, cast1] at this ⊢
    generalize inAt T j = v at *
    generalize T.map iv = TT at *
    rw [lpB_eq]
    cases x
    · by_cases w1 : v < a.h
      · by_cases w2 : v < (h : Int)
        · have this := this false
          simp only [w1, w2, decide_true, bne_self_eq_false, Bool.false_or] at this ⊢
          simp (maxSteps := 1000000) (disch := first | omega | decide | assumption | simp [scal]) [loadA_eq ia_75, za_24, sz_24, o_convI cv_50_3, o_convI cv_5_3, loadA_eq ia_24, za_80, sz_80, za_57, sz_57, o_indexAddrA ea_80, loadA_eq ia_79, lenA_sl lk_25, o_fieldAddr fa_24_2 (by decide), loadA_eq ia_22, lenA_sl lk_22, o_indexAddrS es_22, loadA_eq ia_59, za_59, sz_59, o_indexAddrS es_25, loadA_eq ia_3, o_fieldAddr fa_59_0 (by decide), o_fieldAddr fa_59_1 (by decide), o_fieldAddr fa_57_0 (by decide), o_fieldAddr fa_57_1 (by decide), o_indexAddrA ea_79, loadA_eq ia_4, o_fieldAddr fa_24_0 (by decide), o_fieldAddr fa_24_1 (by decide), loadA_eq ia_80, loadA_eq ia_57, want_some q8_19g2, want_some q8_19g6, want_some q8_19g11, want_some q8_24g2, want_some q8_64g1, want_some q8_67g1, want_some q8_70g8, want_some q8_70g18, want_some q8_70g31, want_some q8_70g40, want_some q8_99g1, want_some q8_99g11, want_some q8_104g2, want_some q8_104g18, want_some q8_116g2, want_some q8_141g10, want_some q8_141g18, want_some q8_141g22, bneq4, e1, e2, g, w1, w2, this]
        · have this := this true
          simp only [w1, w2, decide_true, decide_false, Bool.true_or, Bool.bne_false, Bool.or_true, Bool.false_or] at this ⊢
          simp (maxSteps := 1000000) (disch := first | omega | decide | assumption | simp [scal]) [loadA_eq ia_75, za_24, sz_24, o_convI cv_50_3, o_convI cv_5_3, loadA_eq ia_24, za_80, sz_80, za_57, sz_57, o_indexAddrA ea_80, loadA_eq ia_79, lenA_sl lk_25, o_fieldAddr fa_24_2 (by decide), loadA_eq ia_22, lenA_sl lk_22, o_indexAddrS es_22, loadA_eq ia_59, za_59, sz_59, o_indexAddrS es_25, loadA_eq ia_3, o_fieldAddr fa_59_0 (by decide), o_fieldAddr fa_59_1 (by decide), o_fieldAddr fa_57_0 (by decide), o_fieldAddr fa_57_1 (by decide), o_indexAddrA ea_79, loadA_eq ia_4, o_fieldAddr fa_24_0 (by decide), o_fieldAddr fa_24_1 (by decide), loadA_eq ia_80, loadA_eq ia_57, want_some q8_19g2, want_some q8_19g6, want_some q8_19g11, want_some q8_24g2, want_some q8_64g1, want_some q8_67g1, want_some q8_70g8, want_some q8_70g18, want_some q8_70g31, want_some q8_70g40, want_some q8_99g1, want_some q8_99g11, want_some q8_104g2, want_some q8_104g18, want_some q8_116g2, want_some q8_141g10, want_some q8_141g18, want_some q8_141g22, bneq4, e1, e2, g, w1, w2, this]
      · by_cases w2 : v < (h : Int)
        · have this := this true
          simp only [w1, w2, decide_true, decide_false, Bool.true_or, Bool.false_bne, Bool.or_true, Bool.false_or] at this ⊢
          simp (maxSteps := 1000000) (disch := first | omega | decide | assumption | simp [scal]) [loadA_eq ia_75, za_24, sz_24, o_convI cv_50_3, o_convI cv_5_3, loadA_eq ia_24, za_80, sz_80, za_57, sz_57, o_indexAddrA ea_80, loadA_eq ia_79, lenA_sl lk_25, o_fieldAddr fa_24_2 (by decide), loadA_eq ia_22, lenA_sl lk_22, o_indexAddrS es_22, loadA_eq ia_59, za_59, sz_59, o_indexAddrS es_25, loadA_eq ia_3, o_fieldAddr fa_59_0 (by decide), o_fieldAddr fa_59_1 (by decide), o_fieldAddr fa_57_0 (by decide), o_fieldAddr fa_57_1 (by decide), o_indexAddrA ea_79, loadA_eq ia_4, o_fieldAddr fa_24_0 (by decide), o_fieldAddr fa_24_1 (by decide), loadA_eq ia_80, loadA_eq ia_57, want_some q8_19g2, want_some q8_19g6, want_some q8_19g11, want_some q8_24g2, want_some q8_64g1, want_some q8_67g1, want_some q8_70g8, want_some q8_70g18, want_some q8_70g31, want_some q8_70g40, want_some q8_99g1, want_some q8_99g11, want_some q8_104g2, want_some q8_104g18, want_some q8_116g2, want_some q8_141g10, want_some q8_141g18, want_some q8_141g22, bneq4, e1, e2, g, w1, w2, this]
        · have this := this false
          simp only [w1, w2, decide_false, bne_self_eq_false, Bool.false_or] at this ⊢
          simp (maxSteps := 1000000) (disch := first | omega | decide | assumption | simp [scal]) [loadA_eq ia_75, za_24, sz_24, o_convI cv_50_3, o_convI cv_5_3, loadA_eq ia_24, za_80, sz_80, za_57, sz_57, o_indexAddrA ea_80, loadA_eq ia_79, lenA_sl lk_25, o_fieldAddr fa_24_2 (by decide), loadA_eq ia_22, lenA_sl lk_22, o_indexAddrS es_22, loadA_eq ia_59, za_59, sz_59, o_indexAddrS es_25, loadA_eq ia_3, o_fieldAddr fa_59_0 (by decide), o_fieldAddr fa_59_1 (by decide), o_fieldAddr fa_57_0 (by decide), o_fieldAddr fa_57_1 (by decide), o_indexAddrA ea_79, loadA_eq ia_4, o_fieldAddr fa_24_0 (by decide), o_fieldAddr fa_24_1 (by decide), loadA_eq ia_80, loadA_eq ia_57, want_some q8_19g2, want_some q8_19g6, want_some q8_19g11, want_some q8_24g2, want_some q8_64g1, want_some q8_67g1, want_some q8_70g8, want_some q8_70g18, want_some q8_70g31, want_some q8_70g40, want_some q8_99g1, want_some q8_99g11, want_some q8_104g2, want_some q8_104g18, want_some q8_116g2, want_some q8_141g10, want_some q8_141g18, want_some q8_141g22, bneq4, e1, e2, g, w1, w2, this]
    · have this := this true
      simp only [Bool.true_or] at this ⊢
      simp (maxSteps := 1000000) (disch := first | omega | decide | assumption | simp [scal]) [loadA_eq ia_75, za_24, sz_24, o_convI cv_50_3, o_convI cv_5_3, loadA_eq ia_24, za_80, sz_80, za_57, sz_57, o_indexAddrA ea_80, loadA_eq ia_79, lenA_sl lk_25, o_fieldAddr fa_24_2 (by decide), loadA_eq ia_22, lenA_sl lk_22, o_indexAddrS es_22, loadA_eq ia_59, za_59, sz_59, o_indexAddrS es_25, loadA_eq ia_3, o_fieldAddr fa_59_0 (by decide), o_fieldAddr fa_59_1 (by decide), o_fieldAddr fa_57_0 (by decide), o_fieldAddr fa_57_1 (by decide), o_indexAddrA ea_79, loadA_eq ia_4, o_fieldAddr fa_24_0 (by decide), o_fieldAddr fa_24_1 (by decide), loadA_eq ia_80, loadA_eq ia_57, want_some q8_19g2, want_some q8_19g6, want_some q8_19g11, want_some q8_24g2, want_some q8_64g1, want_some q8_67g1, want_some q8_70g8, want_some q8_70g18, want_some q8_70g31, want_some q8_70g40, want_some q8_99g1, want_some q8_99g11, want_some q8_104g2, want_some q8_104g18, want_some q8_116g2, want_some q8_141g10, want_some q8_141g18, want_some q8_141g22, bneq4, e1, e2, g, this]
theorem l8_4 (hT : T.length ≤ 9) (k : Nat) (hN : N ≤ 40) (hk : k + 1 < N) (a : Ab) (p : Int) (hp : M[k * 3]? = some (iv p)) (nr : Bool) : ∀ q j : Nat, j + q = T.length → ∀ x : Bool,
    lpB Try.prog LL ⟨8, 279, 1, none⟩ n8_88 n8_89 ⟨[(16, iv ((k : Int) + 1)), (17, pp 1), (21, .bool x), (167, wh 2 T.length), (168, iv T.length), (169, iv j), (7, pp 3), (8, wh 2 T.length), (9, iv h), (10, pp 5), (11, pp 6), (12, iv E), (13, wh 7 H.length), (15, .bool nr), (82, wh 4 N), (83, iv N), (84, iv ((k : Int) + 1))],
      [.cells cs 3 true own, abB a, iB T, shB r f 4 0 N N, .cells M 3 true true, .cells (bT Tb) 1 true true, spB lo hi, iB H], []⟩ =
      some (.exit 4, ⟨[(16, iv ((k : Int) + 1)), (17, pp 1), (21, .bool (x || anyF (fun j => decide (p ≤ inAt T j) && decide (inAt T j < a.h)) q j)), (7, pp 2), (8, wh 4 T.length), (9, iv h), (10, pp 5), (11, pp 6), (12, iv E), (13, wh 7 H.length), (15, .bool nr), (82, wh 3 N), (83, iv N), (84, iv ((k : Int) + 1))],
      [.cells cs 3 true own, abB a, shB r f 3 0 N N, .cells M 3 true true, iB T, .cells (bT Tb) 1 true true, spB lo hi, iB H], []⟩) := by
  intro q
  induction q with
  | zero =>
    intro j hj x
    obtain rfl : j = T.length := by omega
    rw [lpB_eq]
    simp only [iB]
    simp (maxSteps := 1000000) (disch := first | omega | decide | assumption | simp [scal]) [loadA_eq ia_75, za_24, sz_24, o_convI cv_50_3, o_convI cv_5_3, loadA_eq ia_24, za_80, sz_80, za_57, sz_57, o_indexAddrA ea_80, loadA_eq ia_79, lenA_sl lk_25, o_fieldAddr fa_24_2 (by decide), loadA_eq ia_22, lenA_sl lk_22, o_indexAddrS es_22, loadA_eq ia_59, za_59, sz_59, o_indexAddrS es_25, loadA_eq ia_3, o_fieldAddr fa_59_0 (by decide), o_fieldAddr fa_59_1 (by decide), o_fieldAddr fa_57_0 (by decide), o_fieldAddr fa_57_1 (by decide), o_indexAddrA ea_79, loadA_eq ia_4, o_fieldAddr fa_24_0 (by decide), o_fieldAddr fa_24_1 (by decide), loadA_eq ia_80, loadA_eq ia_57, want_some q8_19g2, want_some q8_19g6, want_some q8_19g11, want_some q8_24g2, want_some q8_64g1, want_some q8_67g1, want_some q8_70g8, want_some q8_70g18, want_some q8_70g31, want_some q8_70g40, want_some q8_99g1, want_some q8_99g11, want_some q8_104g2, want_some q8_104g18, want_some q8_116g2, want_some q8_141g10, want_some q8_141g18, want_some q8_141g22, anyF]
  | succ q ih =>
    intro j hj x
    have e1 : j < T.length := by omega
    have e2 : (j : Int) < T.length := by omega
    have e3 : k < N := by omega
    have e4 : (k : Int) < N := by omega
    have this := ih (j + 1) (by omega)
    have g : (T.map iv)[j]? = some (iv (inAt T j)) := by simp [inAt, e1]
    simp only [anyF]
    generalize anyF (fun j => decide (p ≤ inAt T j) && decide (inAt T j < a.h)) q (j + 1) = Y at *
    simp only [iB, cast1] at this ⊢
    generalize inAt T j = v at *
    generalize T.map iv = TT at *
    rw [lpB_eq]
    cases x
    · by_cases w1 : p ≤ v
      · by_cases w2 : v < a.h
        · have this := this true
          simp only [w1, w2, decide_true, Bool.and_true, Bool.true_or, Bool.false_or] at this ⊢
          simp (maxSteps := 1000000) (disch := first | omega | decide | assumption | simp [scal]) [loadA_eq ia_75, za_24, sz_24, o_convI cv_50_3, o_convI cv_5_3, loadA_eq ia_24, za_80, sz_80, za_57, sz_57, o_indexAddrA ea_80, loadA_eq ia_79, lenA_sl lk_25, o_fieldAddr fa_24_2 (by decide), loadA_eq ia_22, lenA_sl lk_22, o_indexAddrS es_22, loadA_eq ia_59, za_59, sz_59, o_indexAddrS es_25, loadA_eq ia_3, o_fieldAddr fa_59_0 (by decide), o_fieldAddr fa_59_1 (by decide), o_fieldAddr fa_57_0 (by decide), o_fieldAddr fa_57_1 (by decide), o_indexAddrA ea_79, loadA_eq ia_4, o_fieldAddr fa_24_0 (by decide), o_fieldAddr fa_24_1 (by decide), loadA_eq ia_80, loadA_eq ia_57, want_some q8_19g2, want_some q8_19g6, want_some q8_19g11, want_some q8_24g2, want_some q8_64g1, want_some q8_67g1, want_some q8_70g8, want_some q8_70g18, want_some q8_70g31, want_some q8_70g40, want_some q8_99g1, want_some q8_99g11, want_some q8_104g2, want_some q8_104g18, want_some q8_116g2, want_some q8_141g10, want_some q8_141g18, want_some q8_141g22, e1, e2, e3, e4, hp, g, w1, w2, this]
        · have this := this false
          simp only [w1, w2, decide_true, decide_false, Bool.and_false, Bool.false_or] at this ⊢
          simp (maxSteps := 1000000) (disch := first | omega | decide | assumption | simp [scal]) [loadA_eq ia_75, za_24, sz_24, o_convI cv_50_3, o_convI cv_5_3, loadA_eq ia_24, za_80, sz_80, za_57, sz_57, o_indexAddrA ea_80, loadA_eq ia_79, lenA_sl lk_25, o_fieldAddr fa_24_2 (by decide), loadA_eq ia_22, lenA_sl lk_22, o_indexAddrS es_22, loadA_eq ia_59, za_59, sz_59, o_indexAddrS es_25, loadA_eq ia_3, o_fieldAddr fa_59_0 (by decide), o_fieldAddr fa_59_1 (by decide), o_fieldAddr fa_57_0 (by decide), o_fieldAddr fa_57_1 (by decide), o_indexAddrA ea_79, loadA_eq ia_4, o_fieldAddr fa_24_0 (by decide), o_fieldAddr fa_24_1 (by decide), loadA_eq ia_80, loadA_eq ia_57, want_some q8_19g2, want_some q8_19g6, want_some q8_19g11, want_some q8_24g2, want_some q8_64g1, want_some q8_67g1, want_some q8_70g8, want_some q8_70g18, want_some q8_70g31, want_some q8_70g40, want_some q8_99g1, want_some q8_99g11, want_some q8_104g2, want_some q8_104g18, want_some q8_116g2, want_some q8_141g10, want_some q8_141g18, want_some q8_141g22, e1, e2, e3, e4, hp, g, w1, w2, this]
      · have this := this false
        simp only [w1, decide_false, Bool.false_and, Bool.false_or] at this ⊢
        simp (maxSteps := 1000000) (disch := first | omega | decide | assumption | simp [scal]) [loadA_eq ia_75, za_24, sz_24, o_convI cv_50_3, o_convI cv_5_3, loadA_eq ia_24, za_80, sz_80, za_57, sz_57, o_indexAddrA ea_80, loadA_eq ia_79, lenA_sl lk_25, o_fieldAddr fa_24_2 (by decide), loadA_eq ia_22, lenA_sl lk_22, o_indexAddrS es_22, loadA_eq ia_59, za_59, sz_59, o_indexAddrS es_25, loadA_eq ia_3, o_fieldAddr fa_59_0 (by decide), o_fieldAddr fa_59_1 (by decide), o_fieldAddr fa_57_0 (by decide), o_fieldAddr fa_57_1 (by decide), o_indexAddrA ea_79, loadA_eq ia_4, o_fieldAddr fa_24_0 (by decide), o_fieldAddr fa_24_1 (by decide), loadA_eq ia_80, loadA_eq ia_57, want_some q8_19g2, want_some q8_19g6, want_some q8_19g11, want_some q8_24g2, want_some q8_64g1, want_some q8_67g1, want_some q8_70g8, want_some q8_70g18, want_some q8_70g31, want_some q8_70g40, want_some q8_99g1, want_some q8_99g11, want_some q8_104g2, want_some q8_104g18, want_some q8_116g2, want_some q8_141g10, want_some q8_141g18, want_some q8_141g22, e1, e2, e3, e4, hp, g, w1, this]
    · have this := this true
      simp only [Bool.true_or] at this ⊢
      simp (maxSteps := 1000000) (disch := first | omega | decide | assumption | simp [scal]) [loadA_eq ia_75, za_24, sz_24, o_convI cv_50_3, o_convI cv_5_3, loadA_eq ia_24, za_80, sz_80, za_57, sz_57, o_indexAddrA ea_80, loadA_eq ia_79, lenA_sl lk_25, o_fieldAddr fa_24_2 (by decide), loadA_eq ia_22, lenA_sl lk_22, o_indexAddrS es_22, loadA_eq ia_59, za_59, sz_59, o_indexAddrS es_25, loadA_eq ia_3, o_fieldAddr fa_59_0 (by decide), o_fieldAddr fa_59_1 (by decide), o_fieldAddr fa_57_0 (by decide), o_fieldAddr fa_57_1 (by decide), o_indexAddrA ea_79, loadA_eq ia_4, o_fieldAddr fa_24_0 (by decide), o_fieldAddr fa_24_1 (by decide), loadA_eq ia_80, loadA_eq ia_57, want_some q8_19g2, want_some q8_19g6, want_some q8_19g11, want_some q8_24g2, want_some q8_64g1, want_some q8_67g1, want_some q8_70g8, want_some q8_70g18, want_some q8_70g31, want_some q8_70g40, want_some q8_99g1, want_some q8_99g11, want_some q8_104g2, want_some q8_104g18, want_some q8_116g2, want_some q8_141g10, want_some q8_141g18, want_some q8_141g22, e1, e2, g, this]
/-- the last loop -/
theorem l8_6 (hh : h ≤ 9) (hv : ∀ u, 0 < u → u < 59 → Tb h u = (decide (lo ≤ (u : Int) - 20) && decide ((u : Int) - 20 ≤ hi))) : ∀ q u : Nat, u + q = 60 →
    lpB Try.prog LL ⟨8, 279, 1, none⟩ n8_131 n8_132 ⟨[(9, iv h), (10, pp 1), (11, pp 2), (25, iv u)], [.cells cs 3 true own, .cells (bT Tb) 1 true true, spB lo hi], []⟩ =
      some (.exit 6, ⟨[], [.cells cs 3 true own], []⟩) := by
  intro q
  induction q with
  | zero =>
    intro u hu
    obtain rfl : u = 60 := by omega
    rw [lpB_eq]
    simp (maxSteps := 1000000) (disch := first | omega | decide | assumption | simp [scal]) [loadA_eq ia_75, za_24, sz_24, o_convI cv_50_3, o_convI cv_5_3, loadA_eq ia_24, za_80, sz_80, za_57, sz_57, o_indexAddrA ea_80, loadA_eq ia_79, lenA_sl lk_25, o_fieldAddr fa_24_2 (by decide), loadA_eq ia_22, lenA_sl lk_22, o_indexAddrS es_22, loadA_eq ia_59, za_59, sz_59, o_indexAddrS es_25, loadA_eq ia_3, o_fieldAddr fa_59_0 (by decide), o_fieldAddr fa_59_1 (by decide), o_fieldAddr fa_57_0 (by decide), o_fieldAddr fa_57_1 (by decide), o_indexAddrA ea_79, loadA_eq ia_4, o_fieldAddr fa_24_0 (by decide), o_fieldAddr fa_24_1 (by decide), loadA_eq ia_80, loadA_eq ia_57, want_some q8_19g2, want_some q8_19g6, want_some q8_19g11, want_some q8_24g2, want_some q8_64g1, want_some q8_67g1, want_some q8_70g8, want_some q8_70g18, want_some q8_70g31, want_some q8_70g40, want_some q8_99g1, want_some q8_99g11, want_some q8_104g2, want_some q8_104g18, want_some q8_116g2, want_some q8_141g10, want_some q8_141g18, want_some q8_141g22]
  | succ q ih =>
    intro u hu
    have e1 : (u : Int) < 60 := by omega
    have e2 : u < 60 := by omega
    have e3 : (h : Int) < 10 := by omega
    have this := ih (u + 1) (by omega)
    have g := bT_get (F := Tb) (show h < 10 by omega) e2
    simp only [cast1] at this
    by_cases h0 : u = 0
    · subst h0
      have e4 : ¬ (0 : Int) < 0 := by omega
      simp only [Nat.add_zero, Int.natCast_zero, Int.zero_add] at g this ⊢
      generalize Tb h 0 = X at *
      rw [lpB_eq]
      by_cases w1 : lo ≤ -20
      · by_cases w2 : -20 ≤ hi
        · cases X
          · simp (maxSteps := 1000000) (disch := first | omega | decide | assumption | simp [scal]) [loadA_eq ia_75, za_24, sz_24, o_convI cv_50_3, o_convI cv_5_3, loadA_eq ia_24, za_80, sz_80, za_57, sz_57, o_indexAddrA ea_80, loadA_eq ia_79, lenA_sl lk_25, o_fieldAddr fa_24_2 (by decide), loadA_eq ia_22, lenA_sl lk_22, o_indexAddrS es_22, loadA_eq ia_59, za_59, sz_59, o_indexAddrS es_25, loadA_eq ia_3, o_fieldAddr fa_59_0 (by decide), o_fieldAddr fa_59_1 (by decide), o_fieldAddr fa_57_0 (by decide), o_fieldAddr fa_57_1 (by decide), o_indexAddrA ea_79, loadA_eq ia_4, o_fieldAddr fa_24_0 (by decide), o_fieldAddr fa_24_1 (by decide), loadA_eq ia_80, loadA_eq ia_57, want_some q8_19g2, want_some q8_19g6, want_some q8_19g11, want_some q8_24g2, want_some q8_64g1, want_some q8_67g1, want_some q8_70g8, want_some q8_70g18, want_some q8_70g31, want_some q8_70g40, want_some q8_99g1, want_some q8_99g11, want_some q8_104g2, want_some q8_104g18, want_some q8_116g2, want_some q8_141g10, want_some q8_141g18, want_some q8_141g22, bneq4, e3, g, w1, w2, this]
          · simp (maxSteps := 1000000) (disch := first | omega | decide | assumption | simp [scal]) [loadA_eq ia_75, za_24, sz_24, o_convI cv_50_3, o_convI cv_5_3, loadA_eq ia_24, za_80, sz_80, za_57, sz_57, o_indexAddrA ea_80, loadA_eq ia_79, lenA_sl lk_25, o_fieldAddr fa_24_2 (by decide), loadA_eq ia_22, lenA_sl lk_22, o_indexAddrS es_22, loadA_eq ia_59, za_59, sz_59, o_indexAddrS es_25, loadA_eq ia_3, o_fieldAddr fa_59_0 (by decide), o_fieldAddr fa_59_1 (by decide), o_fieldAddr fa_57_0 (by decide), o_fieldAddr fa_57_1 (by decide), o_indexAddrA ea_79, loadA_eq ia_4, o_fieldAddr fa_24_0 (by decide), o_fieldAddr fa_24_1 (by decide), loadA_eq ia_80, loadA_eq ia_57, want_some q8_19g2, want_some q8_19g6, want_some q8_19g11, want_some q8_24g2, want_some q8_64g1, want_some q8_67g1, want_some q8_70g8, want_some q8_70g18, want_some q8_70g31, want_some q8_70g40, want_some q8_99g1, want_some q8_99g11, want_some q8_104g2, want_some q8_104g18, want_some q8_116g2, want_some q8_141g10, want_some q8_141g18, want_some q8_141g22, bneq4, e3, g, w1, w2, this]
        · cases X
          · simp (maxSteps := 1000000) (disch := first | omega | decide | assumption | simp [scal]) [loadA_eq ia_75, za_24, sz_24, o_convI cv_50_3, o_convI cv_5_3, loadA_eq ia_24, za_80, sz_80, za_57, sz_57, o_indexAddrA ea_80, loadA_eq ia_79, lenA_sl lk_25, o_fieldAddr fa_24_2 (by decide), loadA_eq ia_22, lenA_sl lk_22, o_indexAddrS es_22, loadA_eq ia_59, za_59, sz_59, o_indexAddrS es_25, loadA_eq ia_3, o_fieldAddr fa_59_0 (by decide), o_fieldAddr fa_59_1 (by decide), o_fieldAddr fa_57_0 (by decide), o_fieldAddr fa_57_1 (by decide), o_indexAddrA ea_79, loadA_eq ia_4, o_fieldAddr fa_24_0 (by decide), o_fieldAddr fa_24_1 (by decide), loadA_eq ia_80, loadA_eq ia_57, want_some q8_19g2, want_some q8_19g6, want_some q8_19g11, want_some q8_24g2, want_some q8_64g1, want_some q8_67g1, want_some q8_70g8, want_some q8_70g18, want_some q8_70g31, want_some q8_70g40, want_some q8_99g1, want_some q8_99g11, want_some q8_104g2, want_some q8_104g18, want_some q8_116g2, want_some q8_141g10, want_some q8_141g18, want_some q8_141g22, bneq4, e3, g, w1, w2, this]
          · simp (maxSteps := 1000000) (disch := first | omega | decide | assumption | simp [scal]) [loadA_eq ia_75, za_24, sz_24, o_convI cv_50_3, o_convI cv_5_3, loadA_eq ia_24, za_80, sz_80, za_57, sz_57, o_indexAddrA ea_80, loadA_eq ia_79, lenA_sl lk_25, o_fieldAddr fa_24_2 (by decide), loadA_eq ia_22, lenA_sl lk_22, o_indexAddrS es_22, loadA_eq ia_59, za_59, sz_59, o_indexAddrS es_25, loadA_eq ia_3, o_fieldAddr fa_59_0 (by decide), o_fieldAddr fa_59_1 (by decide), o_fieldAddr fa_57_0 (by decide), o_fieldAddr fa_57_1 (by decide), o_indexAddrA ea_79, loadA_eq ia_4, o_fieldAddr fa_24_0 (by decide), o_fieldAddr fa_24_1 (by decide), loadA_eq ia_80, loadA_eq ia_57, want_some q8_19g2, want_some q8_19g6, want_some q8_19g11, want_some q8_24g2, want_some q8_64g1, want_some q8_67g1, want_some q8_70g8, want_some q8_70g18, want_some q8_70g31, want_some q8_70g40, want_some q8_99g1, want_some q8_99g11, want_some q8_104g2, want_some q8_104g18, want_some q8_116g2, want_some q8_141g10, want_some q8_141g18, want_some q8_141g22, bneq4, e3, g, w1, w2, this]
      · cases X
        · simp (maxSteps := 1000000) (disch := first | omega | decide | assumption | simp [scal]) [loadA_eq ia_75, za_24, sz_24, o_convI cv_50_3, o_convI cv_5_3, loadA_eq ia_24, za_80, sz_80, za_57, sz_57, o_indexAddrA ea_80, loadA_eq ia_79, lenA_sl lk_25, o_fieldAddr fa_24_2 (by decide), loadA_eq ia_22, lenA_sl lk_22, o_indexAddrS es_22, loadA_eq ia_59, za_59, sz_59, o_indexAddrS es_25, loadA_eq ia_3, o_fieldAddr fa_59_0 (by decide), o_fieldAddr fa_59_1 (by decide), o_fieldAddr fa_57_0 (by decide), o_fieldAddr fa_57_1 (by decide), o_indexAddrA ea_79, loadA_eq ia_4, o_fieldAddr fa_24_0 (by decide), o_fieldAddr fa_24_1 (by decide), loadA_eq ia_80, loadA_eq ia_57, want_some q8_19g2, want_some q8_19g6, want_some q8_19g11, want_some q8_24g2, want_some q8_64g1, want_some q8_67g1, want_some q8_70g8, want_some q8_70g18, want_some q8_70g31, want_some q8_70g40, want_some q8_99g1, want_some q8_99g11, want_some q8_104g2, want_some q8_104g18, want_some q8_116g2, want_some q8_141g10, want_some q8_141g18, want_some q8_141g22, bneq4, e3, g, w1, this]
        · simp (maxSteps := 1000000) (disch := first | omega | decide | assumption | simp [scal]) [loadA_eq ia_75, za_24, sz_24, o_convI cv_50_3, o_convI cv_5_3, loadA_eq ia_24, za_80, sz_80, za_57, sz_57, o_indexAddrA ea_80, loadA_eq ia_79, lenA_sl lk_25, o_fieldAddr fa_24_2 (by decide), loadA_eq ia_22, lenA_sl lk_22, o_indexAddrS es_22, loadA_eq ia_59, za_59, sz_59, o_indexAddrS es_25, loadA_eq ia_3, o_fieldAddr fa_59_0 (by decide), o_fieldAddr fa_59_1 (by decide), o_fieldAddr fa_57_0 (by decide), o_fieldAddr fa_57_1 (by decide), o_indexAddrA ea_79, loadA_eq ia_4, o_fieldAddr fa_24_0 (by decide), o_fieldAddr fa_24_1 (by decide), loadA_eq ia_80, loadA_eq ia_57, want_some q8_19g2, want_some q8_19g6, want_some q8_19g11, want_some q8_24g2, want_some q8_64g1, want_some q8_67g1, want_some q8_70g8, want_some q8_70g18, want_some q8_70g31, want_some q8_70g40, want_some q8_99g1, want_some q8_99g11, want_some q8_104g2, want_some q8_104g18, want_some q8_116g2, want_some q8_141g10, want_some q8_141g18, want_some q8_141g22, bneq4, e3, g, w1, this]
    · have f0 : (0 : Int) < u := by omega
      have f0' : 0 < u := by omega
      by_cases h9 : u = 59
      · subst h9
        simp only [show ((59 : Nat) : Int) + 1 = 60 from rfl] at this
        generalize Tb h 59 = X at *
        rw [lpB_eq]
        by_cases w1 : lo ≤ 39
        · by_cases w2 : 39 ≤ hi
          · cases X
            · simp (maxSteps := 1000000) (disch := first | omega | decide | assumption | simp [scal]) [loadA_eq ia_75, za_24, sz_24, o_convI cv_50_3, o_convI cv_5_3, loadA_eq ia_24, za_80, sz_80, za_57, sz_57, o_indexAddrA ea_80, loadA_eq ia_79, lenA_sl lk_25, o_fieldAddr fa_24_2 (by decide), loadA_eq ia_22, lenA_sl lk_22, o_indexAddrS es_22, loadA_eq ia_59, za_59, sz_59, o_indexAddrS es_25, loadA_eq ia_3, o_fieldAddr fa_59_0 (by decide), o_fieldAddr fa_59_1 (by decide), o_fieldAddr fa_57_0 (by decide), o_fieldAddr fa_57_1 (by decide), o_indexAddrA ea_79, loadA_eq ia_4, o_fieldAddr fa_24_0 (by decide), o_fieldAddr fa_24_1 (by decide), loadA_eq ia_80, loadA_eq ia_57, want_some q8_19g2, want_some q8_19g6, want_some q8_19g11, want_some q8_24g2, want_some q8_64g1, want_some q8_67g1, want_some q8_70g8, want_some q8_70g18, want_some q8_70g31, want_some q8_70g40, want_some q8_99g1, want_some q8_99g11, want_some q8_104g2, want_some q8_104g18, want_some q8_116g2, want_some q8_141g10, want_some q8_141g18, want_some q8_141g22, bneq4, e3, g, w1, w2, this]
            · simp (maxSteps := 1000000) (disch := first | omega | decide | assumption | simp [scal]) [loadA_eq ia_75, za_24, sz_24, o_convI cv_50_3, o_convI cv_5_3, loadA_eq ia_24, za_80, sz_80, za_57, sz_57, o_indexAddrA ea_80, loadA_eq ia_79, lenA_sl lk_25, o_fieldAddr fa_24_2 (by decide), loadA_eq ia_22, lenA_sl lk_22, o_indexAddrS es_22, loadA_eq ia_59, za_59, sz_59, o_indexAddrS es_25, loadA_eq ia_3, o_fieldAddr fa_59_0 (by decide), o_fieldAddr fa_59_1 (by decide), o_fieldAddr fa_57_0 (by decide), o_fieldAddr fa_57_1 (by decide), o_indexAddrA ea_79, loadA_eq ia_4, o_fieldAddr fa_24_0 (by decide), o_fieldAddr fa_24_1 (by decide), loadA_eq ia_80, loadA_eq ia_57, want_some q8_19g2, want_some q8_19g6, want_some q8_19g11, want_some q8_24g2, want_some q8_64g1, want_some q8_67g1, want_some q8_70g8, want_some q8_70g18, want_some q8_70g31, want_some q8_70g40, want_some q8_99g1, want_some q8_99g11, want_some q8_104g2, want_some q8_104g18, want_some q8_116g2, want_some q8_141g10, want_some q8_141g18, want_some q8_141g22, bneq4, e3, g, w1, w2, this]
          · cases X
            · simp (maxSteps := 1000000) (disch := first | omega | decide | assumption | simp [scal]) [loadA_eq ia_75, za_24, sz_24, o_convI cv_50_3, o_convI cv_5_3, loadA_eq ia_24, za_80, sz_80, za_57, sz_57, o_indexAddrA ea_80, loadA_eq ia_79, lenA_sl lk_25, o_fieldAddr fa_24_2 (by decide), loadA_eq ia_22, lenA_sl lk_22, o_indexAddrS es_22, loadA_eq ia_59, za_59, sz_59, o_indexAddrS es_25, loadA_eq ia_3, o_fieldAddr fa_59_0 (by decide), o_fieldAddr fa_59_1 (by decide), o_fieldAddr fa_57_0 (by decide), o_fieldAddr fa_57_1 (by decide), o_indexAddrA ea_79, loadA_eq ia_4, o_fieldAddr fa_24_0 (by decide), o_fieldAddr fa_24_1 (by decide), loadA_eq ia_80, loadA_eq ia_57, want_some q8_19g2, want_some q8_19g6, want_some q8_19g11, want_some q8_24g2, want_some q8_64g1, want_some q8_67g1, want_some q8_70g8, want_some q8_70g18, want_some q8_70g31, want_some q8_70g40, want_some q8_99g1, want_some q8_99g11, want_some q8_104g2, want_some q8_104g18, want_some q8_116g2, want_some q8_141g10, want_some q8_141g18, want_some q8_141g22, bneq4, e3, g, w1, w2, this]
            · simp (maxSteps := 1000000) (disch := first | omega | decide | assumption | simp [scal]) [loadA_eq ia_75, za_24, sz_24, o_convI cv_50_3, o_convI cv_5_3, loadA_eq ia_24, za_80, sz_80, za_57, sz_57, o_indexAddrA ea_80, loadA_eq ia_79, lenA_sl lk_25, o_fieldAddr fa_24_2 (by decide), loadA_eq ia_22, lenA_sl lk_22, o_indexAddrS es_22, loadA_eq ia_59, za_59, sz_59, o_indexAddrS es_25, loadA_eq ia_3, o_fieldAddr fa_59_0 (by decide), o_fieldAddr fa_59_1 (by decide), o_fieldAddr fa_57_0 (by decide), o_fieldAddr fa_57_1 (by decide), o_indexAddrA ea_79, loadA_eq ia_4, o_fieldAddr fa_24_0 (by decide), o_fieldAddr fa_24_1 (by decide), loadA_eq ia_80, loadA_eq ia_57, want_some q8_19g2, want_some q8_19g6, want_some q8_19g11, want_some q8_24g2, want_some q8_64g1, want_some q8_67g1, want_some q8_70g8, want_some q8_70g18, want_some q8_70g31, want_some q8_70g40, want_some q8_99g1, want_some q8_99g11, want_some q8_104g2, want_some q8_104g18, want_some q8_116g2, want_some q8_141g10, want_some q8_141g18, want_some q8_141g22, bneq4, e3, g, w1, w2, this]
        · cases X
          · simp (maxSteps := 1000000) (disch := first | omega | decide | assumption | simp [scal]) [loadA_eq ia_75, za_24, sz_24, o_convI cv_50_3, o_convI cv_5_3, loadA_eq ia_24, za_80, sz_80, za_57, sz_57, o_indexAddrA ea_80, loadA_eq ia_79, lenA_sl lk_25, o_fieldAddr fa_24_2 (by decide), loadA_eq ia_22, lenA_sl lk_22, o_indexAddrS es_22, loadA_eq ia_59, za_59, sz_59, o_indexAddrS es_25, loadA_eq ia_3, o_fieldAddr fa_59_0 (by decide), o_fieldAddr fa_59_1 (by decide), o_fieldAddr fa_57_0 (by decide), o_fieldAddr fa_57_1 (by decide), o_indexAddrA ea_79, loadA_eq ia_4, o_fieldAddr fa_24_0 (by decide), o_fieldAddr fa_24_1 (by decide), loadA_eq ia_80, loadA_eq ia_57, want_some q8_19g2, want_some q8_19g6, want_some q8_19g11, want_some q8_24g2, want_some q8_64g1, want_some q8_67g1, want_some q8_70g8, want_some q8_70g18, want_some q8_70g31, want_some q8_70g40, want_some q8_99g1, want_some q8_99g11, want_some q8_104g2, want_some q8_104g18, want_some q8_116g2, want_some q8_141g10, want_some q8_141g18, want_some q8_141g22, bneq4, e3, g, w1, this]
          · simp (maxSteps := 1000000) (disch := first | omega | decide | assumption | simp [scal]) [loadA_eq ia_75, za_24, sz_24, o_convI cv_50_3, o_convI cv_5_3, loadA_eq ia_24, za_80, sz_80, za_57, sz_57, o_indexAddrA ea_80, loadA_eq ia_79, lenA_sl lk_25, o_fieldAddr fa_24_2 (by decide), loadA_eq ia_22, lenA_sl lk_22, o_indexAddrS es_22, loadA_eq ia_59, za_59, sz_59, o_indexAddrS es_25, loadA_eq ia_3, o_fieldAddr fa_59_0 (by decide), o_fieldAddr fa_59_1 (by decide), o_fieldAddr fa_57_0 (by decide), o_fieldAddr fa_57_1 (by decide), o_indexAddrA ea_79, loadA_eq ia_4, o_fieldAddr fa_24_0 (by decide), o_fieldAddr fa_24_1 (by decide), loadA_eq ia_80, loadA_eq ia_57, want_some q8_19g2, want_some q8_19g6, want_some q8_19g11, want_some q8_24g2, want_some q8_64g1, want_some q8_67g1, want_some q8_70g8, want_some q8_70g18, want_some q8_70g31, want_some q8_70g40, want_some q8_99g1, want_some q8_99g11, want_some q8_104g2, want_some q8_104g18, want_some q8_116g2, want_some q8_141g10, want_some q8_141g18, want_some q8_141g22, bneq4, e3, g, w1, this]
      · rw [hv u (by omega) (by omega)] at g
        rw [lpB_eq]
        by_cases w1 : lo ≤ (u : Int) - 20
        · by_cases w2 : (u : Int) - 20 ≤ hi
          · simp only [w1, w2, decide_true, Bool.and_self] at g
            simp (maxSteps := 1000000) (disch := first | omega | decide | assumption | simp [scal]) [loadA_eq ia_75, za_24, sz_24, o_convI cv_50_3, o_convI cv_5_3, loadA_eq ia_24, za_80, sz_80, za_57, sz_57, o_indexAddrA ea_80, loadA_eq ia_79, lenA_sl lk_25, o_fieldAddr fa_24_2 (by decide), loadA_eq ia_22, lenA_sl lk_22, o_indexAddrS es_22, loadA_eq ia_59, za_59, sz_59, o_indexAddrS es_25, loadA_eq ia_3, o_fieldAddr fa_59_0 (by decide), o_fieldAddr fa_59_1 (by decide), o_fieldAddr fa_57_0 (by decide), o_fieldAddr fa_57_1 (by decide), o_indexAddrA ea_79, loadA_eq ia_4, o_fieldAddr fa_24_0 (by decide), o_fieldAddr fa_24_1 (by decide), loadA_eq ia_80, loadA_eq ia_57, want_some q8_19g2, want_some q8_19g6, want_some q8_19g11, want_some q8_24g2, want_some q8_64g1, want_some q8_67g1, want_some q8_70g8, want_some q8_70g18, want_some q8_70g31, want_some q8_70g40, want_some q8_99g1, want_some q8_99g11, want_some q8_104g2, want_some q8_104g18, want_some q8_116g2, want_some q8_141g10, want_some q8_141g18, want_some q8_141g22, bneq4, e1, e2, e3, f0, f0', g, w1, w2, this]
          · simp only [w1, w2, decide_true, decide_false, Bool.and_false] at g
            simp (maxSteps := 1000000) (disch := first | omega | decide | assumption | simp [scal]) [loadA_eq ia_75, za_24, sz_24, o_convI cv_50_3, o_convI cv_5_3, loadA_eq ia_24, za_80, sz_80, za_57, sz_57, o_indexAddrA ea_80, loadA_eq ia_79, lenA_sl lk_25, o_fieldAddr fa_24_2 (by decide), loadA_eq ia_22, lenA_sl lk_22, o_indexAddrS es_22, loadA_eq ia_59, za_59, sz_59, o_indexAddrS es_25, loadA_eq ia_3, o_fieldAddr fa_59_0 (by decide), o_fieldAddr fa_59_1 (by decide), o_fieldAddr fa_57_0 (by decide), o_fieldAddr fa_57_1 (by decide), o_indexAddrA ea_79, loadA_eq ia_4, o_fieldAddr fa_24_0 (by decide), o_fieldAddr fa_24_1 (by decide), loadA_eq ia_80, loadA_eq ia_57, want_some q8_19g2, want_some q8_19g6, want_some q8_19g11, want_some q8_24g2, want_some q8_64g1, want_some q8_67g1, want_some q8_70g8, want_some q8_70g18, want_some q8_70g31, want_some q8_70g40, want_some q8_99g1, want_some q8_99g11, want_some q8_104g2, want_some q8_104g18, want_some q8_116g2, want_some q8_141g10, want_some q8_141g18, want_some q8_141g22, bneq4, e1, e2, e3, f0, f0', g, w1, w2, this]
        · simp only [w1, decide_false, Bool.false_and] at g
          simp (maxSteps := 1000000) (disch := first | omega | decide | assumption | simp [scal]) [loadA_eq ia_75, za_24, sz_24, o_convI cv_50_3, o_convI cv_5_3, loadA_eq ia_24, za_80, sz_80, za_57, sz_57, o_indexAddrA ea_80, loadA_eq ia_79, lenA_sl lk_25, o_fieldAddr fa_24_2 (by decide), loadA_eq ia_22, lenA_sl lk_22, o_indexAddrS es_22, loadA_eq ia_59, za_59, sz_59, o_indexAddrS es_25, loadA_eq ia_3, o_fieldAddr fa_59_0 (by decide), o_fieldAddr fa_59_1 (by decide), o_fieldAddr fa_57_0 (by decide), o_fieldAddr fa_57_1 (by decide), o_indexAddrA ea_79, loadA_eq ia_4, o_fieldAddr fa_24_0 (by decide), o_fieldAddr fa_24_1 (by decide), loadA_eq ia_80, loadA_eq ia_57, want_some q8_19g2, want_some q8_19g6, want_some q8_19g11, want_some q8_24g2, want_some q8_64g1, want_some q8_67g1, want_some q8_70g8, want_some q8_70g18, want_some q8_70g31, want_some q8_70g40, want_some q8_99g1, want_some q8_99g11, want_some q8_104g2, want_some q8_104g18, want_some q8_116g2, want_some q8_141g10, want_some q8_141g18, want_some q8_141g22, bneq4, e1, e2, e3, f0, f0', g, w1, this]
end
end Go.Proofs.Ytiafgimgcbmgaaa.bl
namespace Go.Proofs.Ytiafgimgcbmgaaa.bl
open Go.GE
set_option linter.unusedVariables false
set_option linter.unusedSimpArgs false
set_option maxRecDepth 100000
set_option maxHeartbeats 4000000
attribute [local simp] runOps_nil runOps_cons runOpsF_nil runOpsF_cons fstS_some fstF_some opStep_eq want_none oStep_true oStep_false fin_pure fin_read fin_alloc fin_write storeB wrN cellV addWr o_move o_assign o_pick o_alloc o_box o_load o_store o_nilCheck o_bin o_un o_extract o_callV o_callB o_callI callV_f callV_y callV_fc o_makeFunc partsA Instr.fill builtin_len builtin_max2 bin_add bin_sub bin_mul bin_quo bin_rem bin_lss bin_leq bin_gtr bin_geq bin_eql bin_neq un_neg un_not bin_shr bin_shl wrap_u64_id opd opds optAll putO nbeq nblt constOk isC ops sub cl cr co bodyOf thenS_normal thenS_ret thenS_exit thenS_goto afterN_normal afterN_ret afterN_exit afterN_goto condS_true condS_false blockS_normal blockS_ret blockS_exit blockS_goto headS normS normK_eq fixS_nil fixS_cons fix1 fixV emptyB keepO_nil keepO_cons roundC_normal roundC_exit roundC_ret roundC_goto sweep_eq sweepD rnm pickR pickW rootsB ptrT renT ptrFn renFn ptrB_flat ptrB_non renB_flat renB_non plainS_some drawS_some fpsOk disj unord range' dropTo enumT undef wrap_i64_id Value.cells mkCells ptrTo scal cellsAt rdN endS_ret resultsA Option.bind_some tupV finish reachN dep ptrL_eq ptrL renL_eq renL ptrV_bool ptrV_int ptrV_string ptrV_nilFunc ptrV_nilIface ptrV_nilPtr ptrV_ptr ptrV_nilSl ptrV_sl ptrV_iface ptrV_agg ptrV_tuple ptrV_func renV_bool renV_int renV_string renV_nilFunc renV_nilIface renV_nilPtr renV_ptr renV_nilSl renV_sl renV_iface renV_agg renV_tuple renV_func gotoS_goto gotoS_normal gotoS_exit gotoS_ret skip_seq sliceE bnd bndHi intOf optOpd keepT_nil keepT_cons keepC_t keepC_f lk_nil lk_cons lkC_t lkC_f has_nil has_cons hasC_t hasC_f rep_nil rep_cons repC_t repC_f put_eq putC_t putC_f mem_nil mem_cons memC_t memC_f idx_nil idx_cons idxC_t idxC_f reach_nil reach_cons reachC_t reachC_f
attribute [local simp] n8_1s n8_3s n8_5s n8_7s n8_9s n8_11s n8_13s n8_16s n8_19s n8_20s n8_18s n8_21s n8_17s n8_15s n8_24s n8_27s n8_28s n8_26s n8_29s n8_25s n8_23s n8_31s n8_34s n8_38s n8_41s n8_42s n8_40s n8_46s n8_48s n8_51s n8_55s n8_58s n8_59s n8_57s n8_63s n8_64s n8_62s n8_61s n8_65s n8_60s n8_56s n8_54s n8_53s n8_53g n8_52s n8_50s n8_67s n8_70s n8_73s n8_74s n8_72s n8_75s n8_71s n8_69s n8_78s n8_80s n8_81s n8_79s n8_77s n8_83s n8_86s n8_90s n8_93s n8_94s n8_92s n8_98s n8_99s n8_97s n8_96s n8_100s n8_95s n8_91s n8_89s n8_88s n8_88g n8_87s n8_85s n8_102s n8_104s n8_107s n8_108s n8_106s n8_109s n8_105s n8_103s n8_101s n8_84s n8_82s n8_76s n8_68s n8_66s n8_49s n8_47s n8_45s n8_44s n8_110s n8_43s n8_39s n8_37s n8_36s n8_36g n8_35s n8_33s n8_113s n8_116s n8_117s n8_115s n8_118s n8_114s n8_112s n8_121s n8_124s n8_125s n8_123s n8_126s n8_122s n8_120s n8_129s n8_134s n8_136s n8_137s n8_135s n8_133s n8_141s n8_144s n8_145s n8_143s n8_146s n8_142s n8_140s n8_139s n8_147s n8_138s n8_132s n8_131s n8_131g n8_130s n8_128s n8_149s n8_150s n8_148s n8_127s n8_119s n8_111s n8_32s n8_30s n8_22s n8_14s n8_12s n8_10s n8_8s n8_6s n8_4s n8_2s n8_0s Try.f8
theorem anyF_last {P : Nat → Bool} : ∀ k j, anyF P (k + 1) j = (anyF P k j || P (j + k)) := by
  intro k
  induction k with
  | zero => intro j; simp [anyF]
  | succ k ih =>
    intro j
    rw [anyF, ih (j + 1), anyF, ← Bool.or_assoc, show j + 1 + k = j + (k + 1) by omega]
/-- what is known of an absolute -/
structure F8 (H : List Int) (Tb : Nat → Nat → Bool) (a : Ab) (i : Nat) (y v : Nat) : Prop where
  hy : a.h = y
  y9 : y < 10
  hv : H[i]? = some (v : Int)
  v1 : a.lo ≤ v
  v2 : (v : Int) ≤ a.hi
  v3 : v < 19
  l0 : -1000 ≤ a.lo
  h0 : a.hi ≤ 1000
  t1 : Tb y (v + 20) = true
  t2 : (v : Int) < a.hi → Tb y (v + 21) = false
section
variable (r f : Int) (h : Nat) (E lw up : Int) {cs : List Value} {own : Bool} (A : List Ab) (T H : List Int) (Tb : Nat → Nat → Bool)
abbrev apF (T : List Int) (h : Nat) (a : Ab) : Bool := anyF (fun j => decide (inAt T j < a.h) != decide (inAt T j < h)) T.length 0
abbrev frF (T : List Int) (p a : Ab) : Bool := anyF (fun j => decide (p.h ≤ inAt T j) && decide (inAt T j < a.h)) T.length 0
def nrF (A : List Ab) (T : List Int) (h i : Nat) : Bool := anyF (fun k => !apF T h (abAt A k)) i 0
theorem l8_0 (hA : A.length ≤ 40) (hH : H.length ≤ 40) (hT : T.length ≤ 9) (D : 0 ≤ r ∧ r ≤ 1000 ∧ 0 ≤ f ∧ f ≤ 1000) (hf : ∀ i, i < A.length → ∃ y v, F8 H Tb (abAt A i) i y v)
    (h2 : ∀ i, i + 1 < A.length → frF T (abAt A i) (abAt A (i + 1)) = false → inAt H (i + 1) - inAt H i ≤ ((abAt A (i + 1)).h - (abAt A i).h) * r ∧ inAt H i - inAt H (i + 1) ≤ ((abAt A (i + 1)).h - (abAt A i).h) * f) : ∀ q i : Nat, i + q = A.length →
    lpB Try.prog LL ⟨8, 279, 1, none⟩ n8_36 n8_37 ⟨[(7, pp 1), (8, wh 3 T.length), (9, iv h), (10, pp 4), (11, pp 5), (12, iv E), (13, wh 6 H.length), (15, .bool (nrF A T h i)), (82, wh 2 A.length), (83, iv A.length), (84, iv i)],
      [.cells cs 3 true own, shB r f 2 0 A.length A.length, .cells (A.flatMap abG) 3 true true, iB T, .cells (bT Tb) 1 true true, spB lw up, iB H], []⟩ =
      some (.exit 0, ⟨[(9, iv h), (10, pp 1), (11, pp 2), (12, iv E), (15, .bool (nrF A T h A.length))],
      [.cells cs 3 true own, .cells (bT Tb) 1 true true, spB lw up], []⟩) := by
  intro q
  induction q with
  | zero =>
    intro i hi
    obtain rfl : i = A.length := by omega
    generalize nrF A T h A.length = Z
    rw [lpB_eq]
    simp only [iB]
    simp (maxSteps := 1000000) (disch := first | omega | decide | assumption | simp [scal]) [loadA_eq ia_75, za_24, sz_24, o_convI cv_50_3, o_convI cv_5_3, loadA_eq ia_24, za_80, sz_80, za_57, sz_57, o_indexAddrA ea_80, loadA_eq ia_79, lenA_sl lk_25, o_fieldAddr fa_24_2 (by decide), loadA_eq ia_22, lenA_sl lk_22, o_indexAddrS es_22, loadA_eq ia_59, za_59, sz_59, o_indexAddrS es_25, loadA_eq ia_3, o_fieldAddr fa_59_0 (by decide), o_fieldAddr fa_59_1 (by decide), o_fieldAddr fa_57_0 (by decide), o_fieldAddr fa_57_1 (by decide), o_indexAddrA ea_79, loadA_eq ia_4, o_fieldAddr fa_24_0 (by decide), o_fieldAddr fa_24_1 (by decide), loadA_eq ia_80, loadA_eq ia_57, want_some q8_19g2, want_some q8_19g6, want_some q8_19g11, want_some q8_24g2, want_some q8_64g1, want_some q8_67g1, want_some q8_70g8, want_some q8_70g18, want_some q8_70g31, want_some q8_70g40, want_some q8_99g1, want_some q8_99g11, want_some q8_104g2, want_some q8_104g18, want_some q8_116g2, want_some q8_141g10, want_some q8_141g18, want_some q8_141g22]
  | succ q ih =>
    intro i hi
    have e1 : i < A.length := by omega
    have e2 : (i : Int) < A.length := by omega
    have this := ih (i + 1) (by omega)
    obtain ⟨y, v, k⟩ := hf i e1
    obtain ⟨q2, q3, q4⟩ := abAt_C A i e1
    simp only [Nat.zero_add] at q2 q3 q4
    have i1 : i < H.length := (List.getElem?_eq_some_iff.1 k.hv).1
    have i2 : (i : Int) < H.length := by omega
    have qh : (H.map iv)[i]? = some (iv v) := by rw [List.getElem?_map, k.hv]; rfl
    have hn : nrF A T h (i + 1) = (nrF A T h i || !apF T h (abAt A i)) := by unfold nrF; rw [anyF_last, Nat.zero_add]
    have L2 := l8_2 r f A.length h E lw up (cs := cs) (own := own) (A.flatMap abG) T H Tb hT i (abAt A i) (nrF A T h i) T.length 0 (by omega) false
    obtain ⟨hy, y9, hv, v1, v2, v3, l0, h0, t1, t2⟩ := k
    have y9' : (y : Int) < 10 := by omega
    have b1 := bT_get (F := Tb) y9 (show v + 20 < 60 by omega)
    have b2 := bT_get (F := Tb) y9 (show v + 21 < 60 by omega)
    rw [t1] at b1
    have u1 : ((v : Int) + 20).toNat = v + 20 := by omega
    have u2 : ((v : Int) + 21).toNat = v + 21 := by omega
    have u3 : (0 : Int) ≤ (v : Int) + 20 := by omega
    have u4 : (0 : Int) ≤ (v : Int) + 21 := by omega
    have u5 : (v : Int) + 20 < 60 := by omega
    have u6 : (v : Int) + 21 < 60 := by omega
    rw [hn] at this
    have bq : (v : Int) < (abAt A i).hi ∧ (bT Tb)[y * 60 + (v + 21)]? = some (.bool false) ∨ ¬ (v : Int) < (abAt A i).hi := by
      by_cases c : (v : Int) < (abAt A i).hi
      · rw [t2 c] at b2; exact .inl ⟨c, b2⟩
      · exact .inr c
    have c1 : ¬ (v : Int) < (abAt A i).lo := by omega
    have c2 : ¬ (abAt A i).hi < (v : Int) := by omega
    clear b2 t2 t1 hn ih
    simp only [Bool.false_or] at L2
    simp only [apF] at this
    generalize hap : anyF (fun j => decide (inAt T j < (abAt A i).h) != decide (inAt T j < (h : Int))) T.length 0 = ap at *
    generalize nrF A T h A.length = NR at *
    generalize nrF A T h i = nr at *
    have vI : (v : Int) = inAt H i := by simp [inAt, hv]
    by_cases hi0 : i = 0
    · subst hi0
      clear h2 hf
      generalize abAt A 0 = a at *
      obtain ⟨ay, al, au⟩ := a
      simp only [] at hy v1 v2 l0 h0 c1 c2 q2 q3 q4 bq L2
      subst hy
      simp only [iB, Nat.zero_mul, Nat.zero_add, cast1, Int.natCast_zero, Int.zero_add] at this L2 q2 q3 q4 ⊢
      generalize A.flatMap abG = M at *
      generalize H.map iv = HH at *
      generalize T.map iv = TT at *
      rw [lpB_eq]
      rcases bq with ⟨c3, b2⟩ | c3
      · cases nr
        · simp only [Bool.false_or] at this
          simp (maxSteps := 1000000) (disch := first | omega | decide | assumption | simp [scal]) [loadA_eq ia_75, za_24, sz_24, o_convI cv_50_3, o_convI cv_5_3, loadA_eq ia_24, za_80, sz_80, za_57, sz_57, o_indexAddrA ea_80, loadA_eq ia_79, lenA_sl lk_25, o_fieldAddr fa_24_2 (by decide), loadA_eq ia_22, lenA_sl lk_22, o_indexAddrS es_22, loadA_eq ia_59, za_59, sz_59, o_indexAddrS es_25, loadA_eq ia_3, o_fieldAddr fa_59_0 (by decide), o_fieldAddr fa_59_1 (by decide), o_fieldAddr fa_57_0 (by decide), o_fieldAddr fa_57_1 (by decide), o_indexAddrA ea_79, loadA_eq ia_4, o_fieldAddr fa_24_0 (by decide), o_fieldAddr fa_24_1 (by decide), loadA_eq ia_80, loadA_eq ia_57, want_some q8_19g2, want_some q8_19g6, want_some q8_19g11, want_some q8_24g2, want_some q8_64g1, want_some q8_67g1, want_some q8_70g8, want_some q8_70g18, want_some q8_70g31, want_some q8_70g40, want_some q8_99g1, want_some q8_99g11, want_some q8_104g2, want_some q8_104g18, want_some q8_116g2, want_some q8_141g10, want_some q8_141g18, want_some q8_141g22, bneq4, e1, e2, q2, q3, q4, i1, i2, qh, y9', u1, u2, u3, u4, u5, u6, b1, c1, c2, c3, b2, L2, this]
        · simp only [Bool.true_or] at this
          simp (maxSteps := 1000000) (disch := first | omega | decide | assumption | simp [scal]) [loadA_eq ia_75, za_24, sz_24, o_convI cv_50_3, o_convI cv_5_3, loadA_eq ia_24, za_80, sz_80, za_57, sz_57, o_indexAddrA ea_80, loadA_eq ia_79, lenA_sl lk_25, o_fieldAddr fa_24_2 (by decide), loadA_eq ia_22, lenA_sl lk_22, o_indexAddrS es_22, loadA_eq ia_59, za_59, sz_59, o_indexAddrS es_25, loadA_eq ia_3, o_fieldAddr fa_59_0 (by decide), o_fieldAddr fa_59_1 (by decide), o_fieldAddr fa_57_0 (by decide), o_fieldAddr fa_57_1 (by decide), o_indexAddrA ea_79, loadA_eq ia_4, o_fieldAddr fa_24_0 (by decide), o_fieldAddr fa_24_1 (by decide), loadA_eq ia_80, loadA_eq ia_57, want_some q8_19g2, want_some q8_19g6, want_some q8_19g11, want_some q8_24g2, want_some q8_64g1, want_some q8_67g1, want_some q8_70g8, want_some q8_70g18, want_some q8_70g31, want_some q8_70g40, want_some q8_99g1, want_some q8_99g11, want_some q8_104g2, want_some q8_104g18, want_some q8_116g2, want_some q8_141g10, want_some q8_141g18, want_some q8_141g22, bneq4, e1, e2, q2, q3, q4, i1, i2, qh, y9', u1, u2, u3, u4, u5, u6, b1, c1, c2, c3, b2, L2, this]
      · cases nr
        · simp only [Bool.false_or] at this
          simp (maxSteps := 1000000) (disch := first | omega | decide | assumption | simp [scal]) [loadA_eq ia_75, za_24, sz_24, o_convI cv_50_3, o_convI cv_5_3, loadA_eq ia_24, za_80, sz_80, za_57, sz_57, o_indexAddrA ea_80, loadA_eq ia_79, lenA_sl lk_25, o_fieldAddr fa_24_2 (by decide), loadA_eq ia_22, lenA_sl lk_22, o_indexAddrS es_22, loadA_eq ia_59, za_59, sz_59, o_indexAddrS es_25, loadA_eq ia_3, o_fieldAddr fa_59_0 (by decide), o_fieldAddr fa_59_1 (by decide), o_fieldAddr fa_57_0 (by decide), o_fieldAddr fa_57_1 (by decide), o_indexAddrA ea_79, loadA_eq ia_4, o_fieldAddr fa_24_0 (by decide), o_fieldAddr fa_24_1 (by decide), loadA_eq ia_80, loadA_eq ia_57, want_some q8_19g2, want_some q8_19g6, want_some q8_19g11, want_some q8_24g2, want_some q8_64g1, want_some q8_67g1, want_some q8_70g8, want_some q8_70g18, want_some q8_70g31, want_some q8_70g40, want_some q8_99g1, want_some q8_99g11, want_some q8_104g2, want_some q8_104g18, want_some q8_116g2, want_some q8_141g10, want_some q8_141g18, want_some q8_141g22, bneq4, e1, e2, q2, q3, q4, i1, i2, qh, y9', u1, u2, u3, u4, u5, u6, b1, c1, c2, c3, L2, this]
        · simp only [Bool.true_or] at this
          simp (maxSteps := 1000000) (disch := first | omega | decide | assumption | simp [scal]) [loadA_eq ia_75, za_24, sz_24, o_convI cv_50_3, o_convI cv_5_3, loadA_eq ia_24, za_80, sz_80, za_57, sz_57, o_indexAddrA ea_80, loadA_eq ia_79, lenA_sl lk_25, o_fieldAddr fa_24_2 (by decide), loadA_eq ia_22, lenA_sl lk_22, o_indexAddrS es_22, loadA_eq ia_59, za_59, sz_59, o_indexAddrS es_25, loadA_eq ia_3, o_fieldAddr fa_59_0 (by decide), o_fieldAddr fa_59_1 (by decide), o_fieldAddr fa_57_0 (by decide), o_fieldAddr fa_57_1 (by decide), o_indexAddrA ea_79, loadA_eq ia_4, o_fieldAddr fa_24_0 (by decide), o_fieldAddr fa_24_1 (by decide), loadA_eq ia_80, loadA_eq ia_57, want_some q8_19g2, want_some q8_19g6, want_some q8_19g11, want_some q8_24g2, want_some q8_64g1, want_some q8_67g1, want_some q8_70g8, want_some q8_70g18, want_some q8_70g31, want_some q8_70g40, want_some q8_99g1, want_some q8_99g11, want_some q8_104g2, want_some q8_104g18, want_some q8_116g2, want_some q8_141g10, want_some q8_141g18, want_some q8_141g22, bneq4, e1, e2, q2, q3, q4, i1, i2, qh, y9', u1, u2, u3, u4, u5, u6, b1, c1, c2, c3, L2, this]
    · obtain ⟨k, rfl⟩ : ∃ k, i = k + 1 := ⟨i - 1, by omega⟩
      obtain ⟨y', v', F'⟩ := hf k (by omega)
      have h2 := h2 k e1
      obtain ⟨hy', y9'', hv', _, _, v3', _, _, _, _⟩ := F'
      have vI' : (v' : Int) = inAt H k := by simp [inAt, hv']
      obtain ⟨q5, _, _⟩ := abAt_C A k (by omega)
      simp only [Nat.zero_add] at q5
      have qh' : (H.map iv)[k]? = some (iv v') := by rw [List.getElem?_map, hv']; rfl
      have j1 : k < H.length := by omega
      have j2 : (k : Int) < H.length := by omega
      have j3 : (k : Int) < A.length := by omega
      have j4 : k < A.length := by omega
      have j5 : ((k : Int) + 1).toNat = k + 1 := by omega
      have j6 : (0 : Int) ≤ (k : Int) + 1 := by omega
      have j7 : ¬ (k : Int) + 1 = 0 := by omega
      have L4 := fun nr => l8_4 r f A.length h E lw up (cs := cs) (own := own) (A.flatMap abG) T H Tb hT k hA e1 (abAt A (k + 1)) (abAt A k).h q5 nr T.length 0 (by omega) false
      rw [← vI, ← vI'] at h2
      simp only [Bool.false_or] at L4
      simp only [frF] at h2
      generalize hfr : anyF (fun j => decide ((abAt A k).h ≤ inAt T j) && decide (inAt T j < (abAt A (k + 1)).h)) T.length 0 = fr at *
      clear hf vI vI'
      rw [hy'] at h2 q5
      generalize abAt A k = a' at *
      generalize abAt A (k + 1) = a at *
      obtain ⟨ay, al, au⟩ := a
      simp only [] at hy v1 v2 l0 h0 c1 c2 q2 q3 q4 bq L2 L4 h2
      subst hy
      obtain ⟨P1, hm1⟩ : ∃ P, ((y : Int) - y') * r = P := ⟨_, rfl⟩
      obtain ⟨P2, hm2⟩ : ∃ P, ((y : Int) - y') * f = P := ⟨_, rfl⟩
      have p1 : -1000000 ≤ P1 ∧ P1 ≤ 1000000 := by
        rw [← hm1]
        have a1 := Int.mul_le_mul_of_nonneg_right (show ((y : Int) - y') ≤ 100 by omega) (show 0 ≤ r by omega)
        have a2 := Int.mul_le_mul_of_nonneg_right (show (-100 : Int) ≤ ((y : Int) - y') by omega) (show 0 ≤ r by omega)
        generalize ((y : Int) - y') * r = Q at *
        omega
      have p2 : -1000000 ≤ P2 ∧ P2 ≤ 1000000 := by
        rw [← hm2]
        have a1 := Int.mul_le_mul_of_nonneg_right (show ((y : Int) - y') ≤ 100 by omega) (show 0 ≤ f by omega)
        have a2 := Int.mul_le_mul_of_nonneg_right (show (-100 : Int) ≤ ((y : Int) - y') by omega) (show 0 ≤ f by omega)
        generalize ((y : Int) - y') * f = Q at *
        omega
      rw [hm1, hm2] at h2
      simp only [iB, cast1, Int.natCast_zero] at this L2 L4 e2 i2 ⊢
      generalize A.flatMap abG = M at *
      generalize H.map iv = HH at *
      generalize T.map iv = TT at *
      rw [lpB_eq]
      cases fr
      · obtain ⟨g1, g2⟩ := h2 rfl
        have g1 : ¬ P1 < (v : Int) - v' := by omega
        have g2 : ¬ P2 < (v' : Int) - v := by omega
        rcases bq with ⟨c3, b2⟩ | c3
        · cases nr
          · simp only [Bool.false_or] at this
            simp (maxSteps := 1000000) (disch := first | omega | decide | assumption | simp [scal]) [loadA_eq ia_75, za_24, sz_24, o_convI cv_50_3, o_convI cv_5_3, loadA_eq ia_24, za_80, sz_80, za_57, sz_57, o_indexAddrA ea_80, loadA_eq ia_79, lenA_sl lk_25, o_fieldAddr fa_24_2 (by decide), loadA_eq ia_22, lenA_sl lk_22, o_indexAddrS es_22, loadA_eq ia_59, za_59, sz_59, o_indexAddrS es_25, loadA_eq ia_3, o_fieldAddr fa_59_0 (by decide), o_fieldAddr fa_59_1 (by decide), o_fieldAddr fa_57_0 (by decide), o_fieldAddr fa_57_1 (by decide), o_indexAddrA ea_79, loadA_eq ia_4, o_fieldAddr fa_24_0 (by decide), o_fieldAddr fa_24_1 (by decide), loadA_eq ia_80, loadA_eq ia_57, want_some q8_19g2, want_some q8_19g6, want_some q8_19g11, want_some q8_24g2, want_some q8_64g1, want_some q8_67g1, want_some q8_70g8, want_some q8_70g18, want_some q8_70g31, want_some q8_70g40, want_some q8_99g1, want_some q8_99g11, want_some q8_104g2, want_some q8_104g18, want_some q8_116g2, want_some q8_141g10, want_some q8_141g18, want_some q8_141g22, bneq4, e1, e2, q2, q3, q4, i1, i2, qh, y9', u1, u2, u3, u4, u5, u6, b1, c1, c2, c3, b2, L2, this, L4, q5, qh', j1, j2, j3, j4, j5, j6, j7, hm1, hm2, g1, g2]
          · simp only [Bool.true_or] at this
            simp (maxSteps := 1000000) (disch := first | omega | decide | assumption | simp [scal]) [loadA_eq ia_75, za_24, sz_24, o_convI cv_50_3, o_convI cv_5_3, loadA_eq ia_24, za_80, sz_80, za_57, sz_57, o_indexAddrA ea_80, loadA_eq ia_79, lenA_sl lk_25, o_fieldAddr fa_24_2 (by decide), loadA_eq ia_22, lenA_sl lk_22, o_indexAddrS es_22, loadA_eq ia_59, za_59, sz_59, o_indexAddrS es_25, loadA_eq ia_3, o_fieldAddr fa_59_0 (by decide), o_fieldAddr fa_59_1 (by decide), o_fieldAddr fa_57_0 (by decide), o_fieldAddr fa_57_1 (by decide), o_indexAddrA ea_79, loadA_eq ia_4, o_fieldAddr fa_24_0 (by decide), o_fieldAddr fa_24_1 (by decide), loadA_eq ia_80, loadA_eq ia_57, want_some q8_19g2, want_some q8_19g6, want_some q8_19g11, want_some q8_24g2, want_some q8_64g1, want_some q8_67g1, want_some q8_70g8, want_some q8_70g18, want_some q8_70g31, want_some q8_70g40, want_some q8_99g1, want_some q8_99g11, want_some q8_104g2, want_some q8_104g18, want_some q8_116g2, want_some q8_141g10, want_some q8_141g18, want_some q8_141g22, bneq4, e1, e2, q2, q3, q4, i1, i2, qh, y9', u1, u2, u3, u4, u5, u6, b1, c1, c2, c3, b2, L2, this, L4, q5, qh', j1, j2, j3, j4, j5, j6, j7, hm1, hm2, g1, g2]
        · cases nr
          · simp only [Bool.false_or] at this
            simp (maxSteps := 1000000) (disch := first | omega | decide | assumption | simp [scal]) [loadA_eq ia_75, za_24, sz_24, o_convI cv_50_3, o_convI cv_5_3, loadA_eq ia_24, za_80, sz_80, za_57, sz_57, o_indexAddrA ea_80, loadA_eq ia_79, lenA_sl lk_25, o_fieldAddr fa_24_2 (by decide), loadA_eq ia_22, lenA_sl lk_22, o_indexAddrS es_22, loadA_eq ia_59, za_59, sz_59, o_indexAddrS es_25, loadA_eq ia_3, o_fieldAddr fa_59_0 (by decide), o_fieldAddr fa_59_1 (by decide), o_fieldAddr fa_57_0 (by decide), o_fieldAddr fa_57_1 (by decide), o_indexAddrA ea_79, loadA_eq ia_4, o_fieldAddr fa_24_0 (by decide), o_fieldAddr fa_24_1 (by decide), loadA_eq ia_80, loadA_eq ia_57, want_some q8_19g2, want_some q8_19g6, want_some q8_19g11, want_some q8_24g2, want_some q8_64g1, want_some q8_67g1, want_some q8_70g8, want_some q8_70g18, want_some q8_70g31, want_some q8_70g40, want_some q8_99g1, want_some q8_99g11, want_some q8_104g2, want_some q8_104g18, want_some q8_116g2, want_some q8_141g10, want_some q8_141g18, want_some q8_141g22, bneq4, e1, e2, q2, q3, q4, i1, i2, qh, y9', u1, u2, u3, u4, u5, u6, b1, c1, c2, c3, L2, this, L4, q5, qh', j1, j2, j3, j4, j5, j6, j7, hm1, hm2, g1, g2]
          · simp only [Bool.true_or] at this
            simp (maxSteps := 1000000) (disch := first | omega | decide | assumption | simp [scal]) [loadA_eq ia_75, za_24, sz_24, o_convI cv_50_3, o_convI cv_5_3, loadA_eq ia_24, za_80, sz_80, za_57, sz_57, o_indexAddrA ea_80, loadA_eq ia_79, lenA_sl lk_25, o_fieldAddr fa_24_2 (by decide), loadA_eq ia_22, lenA_sl lk_22, o_indexAddrS es_22, loadA_eq ia_59, za_59, sz_59, o_indexAddrS es_25, loadA_eq ia_3, o_fieldAddr fa_59_0 (by decide), o_fieldAddr fa_59_1 (by decide), o_fieldAddr fa_57_0 (by decide), o_fieldAddr fa_57_1 (by decide), o_indexAddrA ea_79, loadA_eq ia_4, o_fieldAddr fa_24_0 (by decide), o_fieldAddr fa_24_1 (by decide), loadA_eq ia_80, loadA_eq ia_57, want_some q8_19g2, want_some q8_19g6, want_some q8_19g11, want_some q8_24g2, want_some q8_64g1, want_some q8_67g1, want_some q8_70g8, want_some q8_70g18, want_some q8_70g31, want_some q8_70g40, want_some q8_99g1, want_some q8_99g11, want_some q8_104g2, want_some q8_104g18, want_some q8_116g2, want_some q8_141g10, want_some q8_141g18, want_some q8_141g22, bneq4, e1, e2, q2, q3, q4, i1, i2, qh, y9', u1, u2, u3, u4, u5, u6, b1, c1, c2, c3, L2, this, L4, q5, qh', j1, j2, j3, j4, j5, j6, j7, hm1, hm2, g1, g2]
      · clear h2
        rcases bq with ⟨c3, b2⟩ | c3
        · cases nr
          · simp only [Bool.false_or] at this
            simp (maxSteps := 1000000) (disch := first | omega | decide | assumption | simp [scal]) [loadA_eq ia_75, za_24, sz_24, o_convI cv_50_3, o_convI cv_5_3, loadA_eq ia_24, za_80, sz_80, za_57, sz_57, o_indexAddrA ea_80, loadA_eq ia_79, lenA_sl lk_25, o_fieldAddr fa_24_2 (by decide), loadA_eq ia_22, lenA_sl lk_22, o_indexAddrS es_22, loadA_eq ia_59, za_59, sz_59, o_indexAddrS es_25, loadA_eq ia_3, o_fieldAddr fa_59_0 (by decide), o_fieldAddr fa_59_1 (by decide), o_fieldAddr fa_57_0 (by decide), o_fieldAddr fa_57_1 (by decide), o_indexAddrA ea_79, loadA_eq ia_4, o_fieldAddr fa_24_0 (by decide), o_fieldAddr fa_24_1 (by decide), loadA_eq ia_80, loadA_eq ia_57, want_some q8_19g2, want_some q8_19g6, want_some q8_19g11, want_some q8_24g2, want_some q8_64g1, want_some q8_67g1, want_some q8_70g8, want_some q8_70g18, want_some q8_70g31, want_some q8_70g40, want_some q8_99g1, want_some q8_99g11, want_some q8_104g2, want_some q8_104g18, want_some q8_116g2, want_some q8_141g10, want_some q8_141g18, want_some q8_141g22, bneq4, e1, e2, q2, q3, q4, i1, i2, qh, y9', u1, u2, u3, u4, u5, u6, b1, c1, c2, c3, b2, L2, this, L4, q5, qh', j1, j2, j3, j4, j5, j6, j7, hm1, hm2]
          · simp only [Bool.true_or] at this
            simp (maxSteps := 1000000) (disch := first | omega | decide | assumption | simp [scal]) [loadA_eq ia_75, za_24, sz_24, o_convI cv_50_3, o_convI cv_5_3, loadA_eq ia_24, za_80, sz_80, za_57, sz_57, o_indexAddrA ea_80, loadA_eq ia_79, lenA_sl lk_25, o_fieldAddr fa_24_2 (by decide), loadA_eq ia_22, lenA_sl lk_22, o_indexAddrS es_22, loadA_eq ia_59, za_59, sz_59, o_indexAddrS es_25, loadA_eq ia_3, o_fieldAddr fa_59_0 (by decide), o_fieldAddr fa_59_1 (by decide), o_fieldAddr fa_57_0 (by decide), o_fieldAddr fa_57_1 (by decide), o_indexAddrA ea_79, loadA_eq ia_4, o_fieldAddr fa_24_0 (by decide), o_fieldAddr fa_24_1 (by decide), loadA_eq ia_80, loadA_eq ia_57, want_some q8_19g2, want_some q8_19g6, want_some q8_19g11, want_some q8_24g2, want_some q8_64g1, want_some q8_67g1, want_some q8_70g8, want_some q8_70g18, want_some q8_70g31, want_some q8_70g40, want_some q8_99g1, want_some q8_99g11, want_some q8_104g2, want_some q8_104g18, want_some q8_116g2, want_some q8_141g10, want_some q8_141g18, want_some q8_141g22, bneq4, e1, e2, q2, q3, q4, i1, i2, qh, y9', u1, u2, u3, u4, u5, u6, b1, c1, c2, c3, b2, L2, this, L4, q5, qh', j1, j2, j3, j4, j5, j6, j7, hm1, hm2]
        · cases nr
          · simp only [Bool.false_or] at this
            simp (maxSteps := 1000000) (disch := first | omega | decide | assumption | simp [scal]) [loadA_eq ia_75, za_24, sz_24, o_convI cv_50_3, o_convI cv_5_3, loadA_eq ia_24, za_80, sz_80, za_57, sz_57, o_indexAddrA ea_80, loadA_eq ia_79, lenA_sl lk_25, o_fieldAddr fa_24_2 (by decide), loadA_eq ia_22, lenA_sl lk_22, o_indexAddrS es_22, loadA_eq ia_59, za_59, sz_59, o_indexAddrS es_25, loadA_eq ia_3, o_fieldAddr fa_59_0 (by decide), o_fieldAddr fa_59_1 (by decide), o_fieldAddr fa_57_0 (by decide), o_fieldAddr fa_57_1 (by decide), o_indexAddrA ea_79, loadA_eq ia_4, o_fieldAddr fa_24_0 (by decide), o_fieldAddr fa_24_1 (by decide), loadA_eq ia_80, loadA_eq ia_57, want_some q8_19g2, want_some q8_19g6, want_some q8_19g11, want_some q8_24g2, want_some q8_64g1, want_some q8_67g1, want_some q8_70g8, want_some q8_70g18, want_some q8_70g31, want_some q8_70g40, want_some q8_99g1, want_some q8_99g11, want_some q8_104g2, want_some q8_104g18, want_some q8_116g2, want_some q8_141g10, want_some q8_141g18, want_some q8_141g22, bneq4, e1, e2, q2, q3, q4, i1, i2, qh, y9', u1, u2, u3, u4, u5, u6, b1, c1, c2, c3, L2, this, L4, q5, qh', j1, j2, j3, j4, j5, j6, j7, hm1, hm2]
          · simp only [Bool.true_or] at this
            simp (maxSteps := 1000000) (disch := first | omega | decide | assumption | simp [scal]) [loadA_eq ia_75, za_24, sz_24, o_convI cv_50_3, o_convI cv_5_3, loadA_eq ia_24, za_80, sz_80, za_57, sz_57, o_indexAddrA ea_80, loadA_eq ia_79, lenA_sl lk_25, o_fieldAddr fa_24_2 (by decide), loadA_eq ia_22, lenA_sl lk_22, o_indexAddrS es_22, loadA_eq ia_59, za_59, sz_59, o_indexAddrS es_25, loadA_eq ia_3, o_fieldAddr fa_59_0 (by decide), o_fieldAddr fa_59_1 (by decide), o_fieldAddr fa_57_0 (by decide), o_fieldAddr fa_57_1 (by decide), o_indexAddrA ea_79, loadA_eq ia_4, o_fieldAddr fa_24_0 (by decide), o_fieldAddr fa_24_1 (by decide), loadA_eq ia_80, loadA_eq ia_57, want_some q8_19g2, want_some q8_19g6, want_some q8_19g11, want_some q8_24g2, want_some q8_64g1, want_some q8_67g1, want_some q8_70g8, want_some q8_70g18, want_some q8_70g31, want_some q8_70g40, want_some q8_99g1, want_some q8_99g11, want_some q8_104g2, want_some q8_104g18, want_some q8_116g2, want_some q8_141g10, want_some q8_141g18, want_some q8_141g22, bneq4, e1, e2, q2, q3, q4, i1, i2, qh, y9', u1, u2, u3, u4, u5, u6, b1, c1, c2, c3, L2, this, L4, q5, qh', j1, j2, j3, j4, j5, j6, j7, hm1, hm2]
end
end Go.Proofs.Ytiafgimgcbmgaaa.bl
namespace Go.Proofs.Ytiafgimgcbmgaaa.bl
open Go.GE
set_option linter.unusedVariables false
set_option linter.unusedSimpArgs false
set_option maxRecDepth 100000
set_option maxHeartbeats 4000000
attribute [local simp] runOps_nil runOps_cons runOpsF_nil runOpsF_cons fstS_some fstF_some opStep_eq want_none oStep_true oStep_false fin_pure fin_read fin_alloc fin_write storeB wrN cellV addWr o_move o_assign o_pick o_alloc o_box o_load o_store o_nilCheck o_bin o_un o_extract o_callV o_callB o_callI callV_f callV_y callV_fc o_makeFunc partsA Instr.fill builtin_len builtin_max2 bin_add bin_sub bin_mul bin_quo bin_rem bin_lss bin_leq bin_gtr bin_geq bin_eql bin_neq un_neg un_not bin_shr bin_shl wrap_u64_id opd opds optAll putO nbeq nblt constOk isC ops sub cl cr co bodyOf thenS_normal thenS_ret thenS_exit thenS_goto afterN_normal afterN_ret afterN_exit afterN_goto condS_true condS_false blockS_normal blockS_ret blockS_exit blockS_goto headS normS normK_eq fixS_nil fixS_cons fix1 fixV emptyB keepO_nil keepO_cons roundC_normal roundC_exit roundC_ret roundC_goto sweep_eq sweepD rnm pickR pickW rootsB ptrT renT ptrFn renFn ptrB_flat ptrB_non renB_flat renB_non plainS_some drawS_some fpsOk disj unord range' dropTo enumT undef wrap_i64_id Value.cells mkCells ptrTo scal cellsAt rdN endS_ret resultsA Option.bind_some tupV finish reachN dep ptrL_eq ptrL renL_eq renL ptrV_bool ptrV_int ptrV_string ptrV_nilFunc ptrV_nilIface ptrV_nilPtr ptrV_ptr ptrV_nilSl ptrV_sl ptrV_iface ptrV_agg ptrV_tuple ptrV_func renV_bool renV_int renV_string renV_nilFunc renV_nilIface renV_nilPtr renV_ptr renV_nilSl renV_sl renV_iface renV_agg renV_tuple renV_func gotoS_goto gotoS_normal gotoS_exit gotoS_ret skip_seq sliceE bnd bndHi intOf optOpd keepT_nil keepT_cons keepC_t keepC_f lk_nil lk_cons lkC_t lkC_f has_nil has_cons hasC_t hasC_f rep_nil rep_cons repC_t repC_f put_eq putC_t putC_f mem_nil mem_cons memC_t memC_f idx_nil idx_cons idxC_t idxC_f reach_nil reach_cons reachC_t reachC_f
attribute [local simp] n8_1s n8_3s n8_5s n8_7s n8_9s n8_11s n8_13s n8_16s n8_19s n8_20s n8_18s n8_21s n8_17s n8_15s n8_24s n8_27s n8_28s n8_26s n8_29s n8_25s n8_23s n8_31s n8_34s n8_38s n8_41s n8_42s n8_40s n8_46s n8_48s n8_51s n8_55s n8_58s n8_59s n8_57s n8_63s n8_64s n8_62s n8_61s n8_65s n8_60s n8_56s n8_54s n8_53s n8_53g n8_52s n8_50s n8_67s n8_70s n8_73s n8_74s n8_72s n8_75s n8_71s n8_69s n8_78s n8_80s n8_81s n8_79s n8_77s n8_83s n8_86s n8_90s n8_93s n8_94s n8_92s n8_98s n8_99s n8_97s n8_96s n8_100s n8_95s n8_91s n8_89s n8_88s n8_88g n8_87s n8_85s n8_102s n8_104s n8_107s n8_108s n8_106s n8_109s n8_105s n8_103s n8_101s n8_84s n8_82s n8_76s n8_68s n8_66s n8_49s n8_47s n8_45s n8_44s n8_110s n8_43s n8_39s n8_37s n8_36s n8_36g n8_35s n8_33s n8_113s n8_116s n8_117s n8_115s n8_118s n8_114s n8_112s n8_121s n8_124s n8_125s n8_123s n8_126s n8_122s n8_120s n8_129s n8_134s n8_136s n8_137s n8_135s n8_133s n8_141s n8_144s n8_145s n8_143s n8_146s n8_142s n8_140s n8_139s n8_147s n8_138s n8_132s n8_131s n8_131g n8_130s n8_128s n8_149s n8_150s n8_148s n8_127s n8_119s n8_111s n8_32s n8_30s n8_22s n8_14s n8_12s n8_10s n8_8s n8_6s n8_4s n8_2s n8_0s Try.f8
theorem rd60_T {F : Nat → Nat → Bool} : rd60 (bT F) = some (.agg (bR (F 0)).toArray) := by
  unfold rd60
  rw [rdN_mid _ _ _ (by rw [bT_len]; omega), List.drop_zero, row0']
  rfl
section
variable {r f : Int} {A : List Ab} {w : Nat} (S : Sht r f A.length (abAt A)) (mo : ∀ a ∈ A, 0 ≤ a.h ∧ a.h < 9 ∧ 0 ≤ a.lo ∧ a.lo ≤ a.hi ∧ a.hi < 19)
include S mo in
theorem f8_of (hc : clW r f A w = false) : ∀ i, i < A.length → ∃ y v, F8 (higR r f A.length (abAt A) (setL w 9).length (inAt (setL w 9))) (tabS (alw A.length (abAt A)) r f w) (abAt A i) i y v := by
  intro i hi
  have bd : ∀ a ∈ A, 0 ≤ a.h ∧ a.h ≤ 9 ∧ -20 ≤ a.hi ∧ a.lo ≤ 39 := fun a h => by have := mo a h; omega
  have m := mo _ (mem_at hi)
  obtain ⟨v, h1, h2, h3, h4, h5⟩ := hig_at S bd hc (i := i) (y := (abAt A i).h.toNat) hi (by omega) (by omega)
  have ey : (((abAt A i).h.toNat : Nat) : Int) = (abAt A i).h := by omega
  refine ⟨(abAt A i).h.toNat, v, ⟨ey.symm, by omega, ?_, h2, h3, by omega, by omega, by omega, h4, h5⟩⟩
  have he : expE r f A.length (abAt A) (setL w 9).length (inAt (setL w 9)) = 0 := by rw [exp_of (set_ptd S w), if_neg (by rw [show clashS r f A.length (abAt A) (setL w 9).length (inAt (setL w 9)) (-1) = false from hc]; simp)]
  unfold higR
  rw [if_pos he, ← h1, ey]
  unfold higL
  simp [hi]
include S mo in
theorem h2_of (hc : clW r f A w = false) : ∀ i, i + 1 < A.length → frF (setL w 9) (abAt A i) (abAt A (i + 1)) = false →
    inAt (higR r f A.length (abAt A) (setL w 9).length (inAt (setL w 9))) (i + 1) - inAt (higR r f A.length (abAt A) (setL w 9).length (inAt (setL w 9))) i ≤ ((abAt A (i + 1)).h - (abAt A i).h) * r ∧
    inAt (higR r f A.length (abAt A) (setL w 9).length (inAt (setL w 9))) i - inAt (higR r f A.length (abAt A) (setL w 9).length (inAt (setL w 9))) (i + 1) ≤ ((abAt A (i + 1)).h - (abAt A i).h) * f := by
  intro i hi hfr
  have bd : ∀ a ∈ A, 0 ≤ a.h ∧ a.h ≤ 9 ∧ -20 ≤ a.hi ∧ a.lo ≤ 39 := fun a h => by have := mo a h; omega
  have he : expE r f A.length (abAt A) (setL w 9).length (inAt (setL w 9)) = 0 := by rw [exp_of (set_ptd S w), if_neg (by rw [show clashS r f A.length (abAt A) (setL w 9).length (inAt (setL w 9)) (-1) = false from hc]; simp)]
  have e : ∀ j, j < A.length → inAt (higR r f A.length (abAt A) (setL w 9).length (inAt (setL w 9))) j = (vW r f A w (abAt A j).h).2.1 := fun j hj => by
    unfold higR
    rw [if_pos he]
    unfold higL
    simp [inAt, hj]
  rw [e i (by omega), e (i + 1) hi]
  have hp : prt w (abAt A i).h = prt w (abAt A (i + 1)).h := by
    have := part_free (w := w) (x := (abAt A i).h) (y := (abAt A (i + 1)).h) (by have := S.asc i (i + 1) (by omega) hi; omega)
    unfold frF at hfr
    rw [this] at hfr
    simpa using hfr
  exact hig_two S bd hi hp
theorem near_of {h : Nat} : nrF A (setL w 9) h A.length = (vW r f A w (h : Int)).2.2 := by
  obtain ⟨s1, _, _⟩ := vW_spec (r := r) (f := f) (A := A) (w := w) (x := (h : Int))
  rw [Bool.eq_iff_iff, s1]
  unfold nrF
  rw [anyF_iff]
  constructor
  · rintro ⟨i, _, hi, h1⟩
    unfold apF at h1
    rw [part_ne] at h1
    exact ⟨i, by omega, by simpa using h1⟩
  · rintro ⟨i, hi, h1⟩
    refine ⟨i, Nat.zero_le _, by omega, ?_⟩
    unfold apF
    rw [part_ne]
    simpa using h1
end
section
variable (a b off n c w p2 : Nat) {cs : List Value} {own : Bool} {g : Nat → Nat × Nat × Nat}
theorem c8 (ha : a < 256) (hb : b < 256) (hw : w < 65536) (hp2 : p2 < 256) (hc : TrC cs off n g) :
    LL.run 8 [trV a b 0 off n c, tv w, uv p2] [.cells cs 3 true own] = some ⟨.bool true, [], []⟩ := by
  refine go (by decide) ?_
  rw [run8 _ _ _ (by simp)]
  have a0 := fun bx => k38 a b off n c (g := g) (bb := 0) (h := .cells cs 3 true own :: bx) ha hb rfl hc
  have S := madR_sht (g := g) (n := n) (a := a) (b := b)
  have m2 := (madR_len (g := g) (n := n)).2
  have mo := (madR_ok (g := g) (n := n)).1
  generalize madR g n = A at *
  generalize hr : (a : Int) % 4 = r at *
  generalize hf : (b : Int) % 4 = f at *
  have bd : ∀ a ∈ A, 0 ≤ a.h ∧ a.h ≤ 9 ∧ -20 ≤ a.hi ∧ a.lo ≤ 39 := fun a h => by have := mo a h; omega
  obtain ⟨W, hW⟩ : ∃ W, w % 512 = W := ⟨_, rfl⟩
  have W1 : W < 512 := by omega
  have eW : (w : Int).tmod 512 = (W : Int) := by rw [Int.tmod_eq_emod_of_nonneg (by omega)]; omega
  obtain ⟨x, hx⟩ : ∃ x, p2 % 10 = x := ⟨_, rfl⟩
  have ex : (p2 : Int).tmod 10 = (x : Int) := by rw [Int.tmod_eq_emod_of_nonneg (by omega)]; omega
  have x9 : x ≤ 9 := by omega
  have a5 := fun h => k39 W (by omega) h
  have a1 := fun b0 b1 bx => k41 r f 0 A.length A.length W (b := 2) (h := b0 :: b1 :: .cells (A.flatMap abG) 3 true true :: bx) (own := true) S rfl (abAt_C A) (by omega)
  have a2 := fun b0 b1 b3 bx => k29 r f 2 0 A.length A.length 4 0 (setL W 9).length (setL W 9).length (x : Int) (h := b0 :: b1 :: .cells (A.flatMap abG) 3 true true :: b3 :: iB (setL W 9) :: bx) rfl rfl (by decide) (abAt_C A) (inAt_C (setL W 9))
  have a3 := fun b0 b1 b3 bx => kList r f 2 0 A.length A.length 4 0 (setL W 9).length (setL W 9).length (h := b0 :: b1 :: .cells (A.flatMap abG) 3 true true :: b3 :: iB (setL W 9) :: bx) rfl rfl (by decide) (c34 r f 0 A.length A.length 0 (setL W 9).length (setL W 9).length _ _ _ _ _ _ (abAt_C A) (inAt_C (setL W 9))) fun _ => rfl
  have ds : anyF (tabS (alw A.length (abAt A)) r f W 0) 60 0 = !clashS r f A.length (abAt A) (setL W 9).length (inAt (setL W 9)) (-1) := by
    rw [Bool.eq_iff_iff, some_iff, way_iff S bd, Bool.not_eq_true']
  have hp := set_ptd S W
  have he := exp_of hp
  have hT := setL_len (w := W) (i := 9)
  by_cases hc : clashS r f A.length (abAt A) (setL W 9).length (inAt (setL W 9)) (-1) = true
  · -- no baseline
    rw [hc] at ds
    rw [if_pos hc] at he
    have hv : valE r f A.length (abAt A) (setL W 9).length (inAt (setL W 9)) (x : Int) = 13 := by unfold valE; rw [he]; simp
    have hh : higR r f A.length (abAt A) (setL W 9).length (inAt (setL W 9)) = [] := by unfold higR; rw [he]; simp
    rw [he, hh] at a3
    rw [hv] at a2
    generalize valP r f A.length (abAt A) (setL W 9).length (inAt (setL W 9)) (x : Int) = P at *
    generalize tabS (alw A.length (abAt A)) r f W = TT at *
    clear S mo hc hp bd
    generalize setL W 9 = T at *
    have z80 := za80
    generalize (fun _ _ => false : Nat → Nat → Bool) = Z at *
    simp only [abK, iB, List.map_nil, List.length_nil] at *
    generalize A.flatMap abG = M at *
    simp (maxSteps := 1000000) (disch := first | omega | decide | assumption | simp [scal]) [loadA_eq ia_75, za_24, sz_24, o_convI cv_50_3, o_convI cv_5_3, loadA_eq ia_24, za_57, sz_57, lenA_sl lk_25, o_fieldAddr fa_24_2 (by decide), loadA_eq ia_22, lenA_sl lk_22, o_indexAddrS es_22, loadA_eq ia_59, za_59, sz_59, o_indexAddrS es_25, loadA_eq ia_3, o_fieldAddr fa_59_0 (by decide), o_fieldAddr fa_59_1 (by decide), o_fieldAddr fa_57_0 (by decide), o_fieldAddr fa_57_1 (by decide), o_indexAddrA ea_79, loadA_eq ia_4, o_fieldAddr fa_24_0 (by decide), o_fieldAddr fa_24_1 (by decide), loadA_eq ia_57, want_some q8_19g2, want_some q8_19g6, want_some q8_19g11, want_some q8_24g2, want_some q8_64g1, want_some q8_67g1, want_some q8_70g8, want_some q8_70g18, want_some q8_70g31, want_some q8_70g40, want_some q8_99g1, want_some q8_99g11, want_some q8_104g2, want_some q8_104g18, want_some q8_116g2, want_some q8_141g10, want_some q8_141g18, want_some q8_141g22, k15, k40, eW, ex, a0, a5, a1, a2, a3, ds, z80, o_indexAddrA ea_80, sz_80, ld79, rd60_T, wr_T, bT_arr, bT_len, bT_all, bT_ptr, bT_ren]
  · have hc : clW r f A W = false := by simpa using hc
    rw [show clashS r f A.length (abAt A) (setL W 9).length (inAt (setL W 9)) (-1) = false from hc] at ds he
    rw [if_neg (by simp)] at he
    have F8s := f8_of S mo hc
    have h2s := h2_of S mo hc
    have nr := near_of (r := r) (f := f) (A := A) (w := W) (h := x)
    have ta := fun u hu => tab_at S bd hc x9 (u := u) hu
    have hl : (higR r f A.length (abAt A) (setL W 9).length (inAt (setL W 9))).length = A.length := by unfold higR; rw [if_pos he, higL_len]
    rw [he, hl] at a3
    have hD := S.dr
    have hv : valE r f A.length (abAt A) (setL W 9).length (inAt (setL W 9)) (x : Int) = if (vW r f A W (x : Int)).2.2 = false then 14 else 0 := by
      unfold valE; rw [he]; simp [show (x : Int) ≤ 10000 by omega]
    have hV : (vW r f A W (x : Int)).2.2 = true → valP r f A.length (abAt A) (setL W 9).length (inAt (setL W 9)) (x : Int) = ((vW r f A W (x : Int)).1, (vW r f A W (x : Int)).2.1) := fun hk => by
      unfold valP; rw [hv, hk]; rfl
    rw [hv] at a2
    have L := fun E lo hi => l8_0 r f x E lo hi (cs := cs) (own := own) A (setL W 9) (higR r f A.length (abAt A) (setL W 9).length (inAt (setL W 9))) (tabS (alw A.length (abAt A)) r f W) (by omega) (by omega) hT ⟨hD.r0, hD.r1, hD.f0, hD.f1⟩ F8s h2s A.length 0 (by omega)
    have n0 : nrF A (setL W 9) x 0 = false := rfl
    simp only [n0, nr, hl] at L
    generalize hP : valP r f A.length (abAt A) (setL W 9).length (inAt (setL W 9)) (x : Int) = P at *
    generalize hQ : vW r f A W (x : Int) = Q at *
    obtain ⟨lo, hi, kn⟩ := Q
    obtain ⟨p, p'⟩ := P
    have L6 := fun (hk : kn = true) => l8_6 x lo hi (cs := cs) (own := own) (tabS (alw A.length (abAt A)) r f W) x9 (fun u h0 h9 => ta u (by omega) hk) 60 0 (by omega)
    generalize tabS (alw A.length (abAt A)) r f W = TT at *
    generalize higR r f A.length (abAt A) (setL W 9).length (inAt (setL W 9)) = H at *
    clear S mo hp bd F8s h2s nr ta hc hP hQ
    generalize setL W 9 = T at *
    have z80 := za80
    generalize (fun _ _ => false : Nat → Nat → Bool) = Z at *
    simp only [abK, iB, Int.natCast_zero] at *
    generalize A.flatMap abG = M at *
    have eN : ∀ k : Nat, (k : Int) = k := fun _ => rfl
    cases kn
    · simp only [if_true] at a2
      simp (maxSteps := 1000000) (disch := first | omega | decide | assumption | simp [scal]) [loadA_eq ia_75, za_24, sz_24, o_convI cv_50_3, o_convI cv_5_3, loadA_eq ia_24, za_57, sz_57, lenA_sl lk_25, o_fieldAddr fa_24_2 (by decide), loadA_eq ia_22, lenA_sl lk_22, o_indexAddrS es_22, loadA_eq ia_59, za_59, sz_59, o_indexAddrS es_25, loadA_eq ia_3, o_fieldAddr fa_59_0 (by decide), o_fieldAddr fa_59_1 (by decide), o_fieldAddr fa_57_0 (by decide), o_fieldAddr fa_57_1 (by decide), o_indexAddrA ea_79, loadA_eq ia_4, o_fieldAddr fa_24_0 (by decide), o_fieldAddr fa_24_1 (by decide), loadA_eq ia_57, want_some q8_19g2, want_some q8_19g6, want_some q8_19g11, want_some q8_24g2, want_some q8_64g1, want_some q8_67g1, want_some q8_70g8, want_some q8_70g18, want_some q8_70g31, want_some q8_70g40, want_some q8_99g1, want_some q8_99g11, want_some q8_104g2, want_some q8_104g18, want_some q8_116g2, want_some q8_141g10, want_some q8_141g18, want_some q8_141g22, k15, k40, eW, ex, a0, a5, a1, a2, a3, ds, z80, o_indexAddrA ea_80, sz_80, ld79, rd60_T, wr_T, bT_arr, bT_len, bT_all, bT_ptr, bT_ren, L]
    · simp only [Bool.true_eq_false, if_false] at a2
      obtain ⟨rfl, rfl⟩ : p = lo ∧ p' = hi := by simpa using hV rfl
      have L6 := L6 rfl
      simp (maxSteps := 1000000) (disch := first | omega | decide | assumption | simp [scal]) [loadA_eq ia_75, za_24, sz_24, o_convI cv_50_3, o_convI cv_5_3, loadA_eq ia_24, za_57, sz_57, lenA_sl lk_25, o_fieldAddr fa_24_2 (by decide), loadA_eq ia_22, lenA_sl lk_22, o_indexAddrS es_22, loadA_eq ia_59, za_59, sz_59, o_indexAddrS es_25, loadA_eq ia_3, o_fieldAddr fa_59_0 (by decide), o_fieldAddr fa_59_1 (by decide), o_fieldAddr fa_57_0 (by decide), o_fieldAddr fa_57_1 (by decide), o_indexAddrA ea_79, loadA_eq ia_4, o_fieldAddr fa_24_0 (by decide), o_fieldAddr fa_24_1 (by decide), loadA_eq ia_57, want_some q8_19g2, want_some q8_19g6, want_some q8_19g11, want_some q8_24g2, want_some q8_64g1, want_some q8_67g1, want_some q8_70g8, want_some q8_70g18, want_some q8_70g31, want_some q8_70g40, want_some q8_99g1, want_some q8_99g11, want_some q8_104g2, want_some q8_104g18, want_some q8_116g2, want_some q8_141g10, want_some q8_141g18, want_some q8_141g22, k15, k40, eW, ex, a0, a5, a1, a2, a3, ds, z80, o_indexAddrA ea_80, sz_80, ld79, rd60_T, wr_T, bT_arr, bT_len, bT_all, bT_ptr, bT_ren, L, L6]
end
end Go.Proofs.Ytiafgimgcbmgaaa.bl
