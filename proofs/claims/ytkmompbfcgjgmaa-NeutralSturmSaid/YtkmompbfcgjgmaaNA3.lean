/-
  Contracts of functions of the program at the limit evaluator, continued. No condition.
-/
import Derived.Test.YtkmompbfcgjgmaaNA2
import Derived.Test.YtkmompbfcgjgmaaE40
namespace Go.Proofs.Ytkmompbfcgjgmaa.nt
open Go.GE
set_option linter.unusedVariables false
set_option linter.unusedSimpArgs false
set_option linter.unusedSectionVars false
set_option maxRecDepth 100000
set_option maxHeartbeats 4000000
attribute [local simp] runOps_nil runOps_cons runOpsF_nil runOpsF_cons fstS_some fstF_some opStep_eq want_none oStep_true oStep_false fin_pure fin_read fin_alloc fin_write storeB wrN cellV addWr o_move o_assign o_pick o_alloc o_box o_load o_store o_nilCheck o_bin o_un o_extract o_callV o_callB o_callI callV_f callV_y callV_fc o_makeFunc partsA Instr.fill builtin_len builtin_max2 bin_add bin_sub bin_mul bin_quo bin_rem bin_lss bin_leq bin_gtr bin_geq bin_eql bin_neq un_neg un_not bin_shr bin_shl wrap_u64_id opd opds optAll putO nbeq nblt constOk isC ops sub cl cr co bodyOf thenS_normal thenS_ret thenS_exit thenS_goto afterN_normal afterN_ret afterN_exit afterN_goto condS_true condS_false blockS_normal blockS_ret blockS_exit blockS_goto headS normS normK_eq fixS_nil fixS_cons fix1 fixV emptyB keepO_nil keepO_cons roundC_normal roundC_exit roundC_ret roundC_goto sweep_eq sweepD rnm pickR pickW rootsB ptrT renT ptrFn renFn ptrB_flat ptrB_non renB_flat renB_non plainS_some drawS_some fpsOk disj unord range' dropTo enumT undef wrap_i64_id Value.cells mkCells ptrTo scal cellsAt rdN endS_ret resultsA Option.bind_some tupV finish reachN dep ptrL_eq ptrL renL_eq renL ptrV_bool ptrV_int ptrV_string ptrV_nilFunc ptrV_nilIface ptrV_nilPtr ptrV_ptr ptrV_nilSl ptrV_sl ptrV_iface ptrV_agg ptrV_tuple ptrV_func renV_bool renV_int renV_string renV_nilFunc renV_nilIface renV_nilPtr renV_ptr renV_nilSl renV_sl renV_iface renV_agg renV_tuple renV_func gotoS_goto gotoS_normal gotoS_exit gotoS_ret skip_seq sliceE bnd bndHi intOf optOpd keepT_nil keepT_cons keepC_t keepC_f lk_nil lk_cons lkC_t lkC_f has_nil has_cons hasC_t hasC_f rep_nil rep_cons repC_t repC_f put_eq putC_t putC_f mem_nil mem_cons memC_t memC_f idx_nil idx_cons idxC_t idxC_f reach_nil reachP_cons reachQ_t reachQ_f ptrB_dead renB_dead ins_eq
attribute [local simp] n31_1s n31_3s n31_5s n31_8s n31_11s n31_14s n31_16s n31_17s n31_15s n31_13s n31_18s n31_12s n31_10s n31_19s n31_9s n31_7s n31_22s n31_27s n31_29s n31_30s n31_28s n31_26s n31_34s n31_36s n31_38s n31_44s n31_46s n31_47s n31_45s n31_43s n31_49s n31_48s n31_42s n31_41s n31_41g n31_40s n31_50s n31_39s n31_37s n31_35s n31_33s n31_32s n31_51s n31_31s n31_25s n31_24s n31_24g n31_23s n31_21s n31_53s n31_56s n31_60s n31_63s n31_64s n31_62s n31_68s n31_71s n31_73s n31_74s n31_72s n31_70s n31_75s n31_69s n31_67s n31_66s n31_76s n31_65s n31_61s n31_59s n31_58s n31_58g n31_57s n31_55s n31_78s n31_79s n31_77s n31_54s n31_52s n31_20s n31_6s n31_4s n31_2s n31_0s Try.f31
abbrev shV (r0 s0 r1 s1 r2 s2 : Int) (n : Nat) (o : Bool) (g : Int) : Value := .agg #[bv r0, bv s0, bv r1, bv s1, bv r2, bv s2, uv n, .bool o, bv g]
section
variable (r0 s0 r1 s1 r2 s2 : Int) (n : Nat) (g : Int) (h8 : I8 r0 ∧ I8 s0 ∧ I8 r1 ∧ I8 s1 ∧ I8 r2 ∧ I8 s2 ∧ I8 g) (hn : n < 256)
include h8 hn
theorem r31A1 (hc : n % 3 = 0) : (shP r0 s0 r1 s1 r2 s2 n false g).length = 2 ∧ (shQ r0 s0 r1 s1 r2 s2 n false).length = 1 ∧ LL.run 31 [shV r0 s0 r1 s1 r2 s2 n false g] [] =
    some ⟨.tuple #[sl 0 0 2 2, sl 1 0 1 1, .bool (okP (shP r0 s0 r1 s1 r2 s2 n false g))], [zB (shP r0 s0 r1 s1 r2 s2 n false g), rtB (shQ r0 s0 r1 s1 r2 s2 n false)], []⟩ := by
  obtain ⟨P, R, hP, hR, l1, l2, bd, lp⟩ := bA1 r0 s0 r1 s1 r2 s2 n false g h8 hn
  have a58 := l58 r0 s0 r1 s1 r2 s2 n false g h8.2.2.2.2.2.2 P (by omega) (BdM_up bd (by omega)) 1 (rtC R)
  have eC : shC n false = 1 := by unfold shC; rw [cond_false, hc]
  have eB : shB0 false g = [1] := rfl
  have t3 : Int.tmod (n : Int) 3 = 0 := by rw [Int.tmod_eq_emod_of_nonneg (by omega)]; omega
  have eL : shL r0 s0 r1 s1 r2 s2 n false = [shR r0 s0] := by unfold shL; rw [eC]; rfl
  have eP : shP r0 s0 r1 s1 r2 s2 n false g = negP g P := by unfold shP; rw [eL, eB, hP]; rfl
  have eR : shQ r0 s0 r1 s1 r2 s2 n false = R := by unfold shQ; rw [eL, hR]; rfl
  rw [eP, eR, negP_len]
  refine ⟨l1, l2, go (by decide) ?_⟩
  rw [l1, show ((2 : Nat) : Int) = 2 from rfl] at a58
  clear eP eR eL eC eB hP hR bd
  have wn : IntKind.i64.wrap (n : Int) = n := wrap_i64_id (by omega) (by omega)
  simp only [rtB] at lp ⊢
  simp only [zB] at a58 lp ⊢
  generalize zm P = X at *
  generalize zm (negP g P) = Y at *
  generalize okP (negP g P) = Z at *
  generalize rtC R = RR at *
  simp only [zm, List.map_cons, List.map_nil] at lp
  rw [run31 _ _ _ (by simp)]
  simp (maxSteps := 1000000) (disch := first | omega | decide | assumption | simp [scal]) [o_indexAddrS es_22, ze_22, o_buildSlice es_22 ze_22 (by decide) ba_22_1, o_fieldAddr fa_54_1 (by decide), loadA_eq ia_5, o_convI cv_5_3, o_fieldAddr fa_54_2 (by decide), loadA_eq ia_4, o_buildSlice es_22 ze_22 (by decide) ba_22_3, o_fieldAddr fa_54_3 (by decide), loadA_eq ia_50, o_fieldAddr fa_54_0 (by decide), o_indexAddrA ea_52, o_indexAddrA ea_51, o_convI cv_50_3, za_24, sz_24, o_fieldAddr fa_24_0 (by decide), loadA_eq ia_3, o_fieldAddr fa_24_1 (by decide), o_buildSlice es_22 ze_22 (by decide) ba_22_2, lenA_sl lk_55, o_indexAddrS es_55, ze_55, o_buildSlice es_55 ze_55 (by decide) ba_55_0, o_sliceS sl_55, ap_55, builtin_append ni_55, loadA_eq ia_24, o_buildSlice es_55 ze_55 (by decide) ba_55_1, lenA_sl lk_22, sz_3, want_some q31_44g4, want_some q31_75g1, want_some q31_75g8, t3, wn, lp, a58]
theorem r31A2 (hc : n % 3 = 1) : (shP r0 s0 r1 s1 r2 s2 n false g).length = 3 ∧ (shQ r0 s0 r1 s1 r2 s2 n false).length = 2 ∧ LL.run 31 [shV r0 s0 r1 s1 r2 s2 n false g] [] =
    some ⟨.tuple #[sl 0 0 3 3, sl 1 0 2 2, .bool (okP (shP r0 s0 r1 s1 r2 s2 n false g))], [zB (shP r0 s0 r1 s1 r2 s2 n false g), rtB (shQ r0 s0 r1 s1 r2 s2 n false)], []⟩ := by
  obtain ⟨P, R, hP, hR, l1, l2, bd, lp⟩ := bA2 r0 s0 r1 s1 r2 s2 n false g h8 hn
  have a58 := l58 r0 s0 r1 s1 r2 s2 n false g h8.2.2.2.2.2.2 P (by omega) (BdM_up bd (by omega)) 2 (rtC R)
  have eC : shC n false = 2 := by unfold shC; rw [cond_false, hc]
  have eB : shB0 false g = [1] := rfl
  have t3 : Int.tmod (n : Int) 3 = 1 := by rw [Int.tmod_eq_emod_of_nonneg (by omega)]; omega
  have eL : shL r0 s0 r1 s1 r2 s2 n false = [shR r0 s0, shR r1 s1] := by unfold shL; rw [eC]; rfl
  have eP : shP r0 s0 r1 s1 r2 s2 n false g = negP g P := by unfold shP; rw [eL, eB, hP]; rfl
  have eR : shQ r0 s0 r1 s1 r2 s2 n false = R := by unfold shQ; rw [eL, hR]; rfl
  rw [eP, eR, negP_len]
  refine ⟨l1, l2, go (by decide) ?_⟩
  rw [l1, show ((3 : Nat) : Int) = 3 from rfl] at a58
  clear eP eR eL eC eB hP hR bd
  have wn : IntKind.i64.wrap (n : Int) = n := wrap_i64_id (by omega) (by omega)
  simp only [rtB] at lp ⊢
  simp only [zB] at a58 lp ⊢
  generalize zm P = X at *
  generalize zm (negP g P) = Y at *
  generalize okP (negP g P) = Z at *
  generalize rtC R = RR at *
  simp only [zm, List.map_cons, List.map_nil] at lp
  rw [run31 _ _ _ (by simp)]
  simp (maxSteps := 1000000) (disch := first | omega | decide | assumption | simp [scal]) [o_indexAddrS es_22, ze_22, o_buildSlice es_22 ze_22 (by decide) ba_22_1, o_fieldAddr fa_54_1 (by decide), loadA_eq ia_5, o_convI cv_5_3, o_fieldAddr fa_54_2 (by decide), loadA_eq ia_4, o_buildSlice es_22 ze_22 (by decide) ba_22_3, o_fieldAddr fa_54_3 (by decide), loadA_eq ia_50, o_fieldAddr fa_54_0 (by decide), o_indexAddrA ea_52, o_indexAddrA ea_51, o_convI cv_50_3, za_24, sz_24, o_fieldAddr fa_24_0 (by decide), loadA_eq ia_3, o_fieldAddr fa_24_1 (by decide), o_buildSlice es_22 ze_22 (by decide) ba_22_2, lenA_sl lk_55, o_indexAddrS es_55, ze_55, o_buildSlice es_55 ze_55 (by decide) ba_55_0, o_sliceS sl_55, ap_55, builtin_append ni_55, loadA_eq ia_24, o_buildSlice es_55 ze_55 (by decide) ba_55_1, lenA_sl lk_22, sz_3, want_some q31_44g4, want_some q31_75g1, want_some q31_75g8, t3, wn, lp, a58]
theorem r31A3 (hc : n % 3 = 2) : (shP r0 s0 r1 s1 r2 s2 n false g).length = 4 ∧ (shQ r0 s0 r1 s1 r2 s2 n false).length = 3 ∧ LL.run 31 [shV r0 s0 r1 s1 r2 s2 n false g] [] =
    some ⟨.tuple #[sl 0 0 4 4, sl 1 0 3 3, .bool (okP (shP r0 s0 r1 s1 r2 s2 n false g))], [zB (shP r0 s0 r1 s1 r2 s2 n false g), rtB (shQ r0 s0 r1 s1 r2 s2 n false)], []⟩ := by
  obtain ⟨P, R, hP, hR, l1, l2, bd, lp⟩ := bA3 r0 s0 r1 s1 r2 s2 n false g h8 hn
  have a58 := l58 r0 s0 r1 s1 r2 s2 n false g h8.2.2.2.2.2.2 P (by omega) (BdM_up bd (by omega)) 3 (rtC R)
  have eC : shC n false = 3 := by unfold shC; rw [cond_false, hc]
  have eB : shB0 false g = [1] := rfl
  have t3 : Int.tmod (n : Int) 3 = 2 := by rw [Int.tmod_eq_emod_of_nonneg (by omega)]; omega
  have eL : shL r0 s0 r1 s1 r2 s2 n false = [shR r0 s0, shR r1 s1, shR r2 s2] := by unfold shL; rw [eC]; rfl
  have eP : shP r0 s0 r1 s1 r2 s2 n false g = negP g P := by unfold shP; rw [eL, eB, hP]; rfl
  have eR : shQ r0 s0 r1 s1 r2 s2 n false = R := by unfold shQ; rw [eL, hR]; rfl
  rw [eP, eR, negP_len]
  refine ⟨l1, l2, go (by decide) ?_⟩
  rw [l1, show ((4 : Nat) : Int) = 4 from rfl] at a58
  clear eP eR eL eC eB hP hR bd
  have wn : IntKind.i64.wrap (n : Int) = n := wrap_i64_id (by omega) (by omega)
  simp only [rtB] at lp ⊢
  simp only [zB] at a58 lp ⊢
  generalize zm P = X at *
  generalize zm (negP g P) = Y at *
  generalize okP (negP g P) = Z at *
  generalize rtC R = RR at *
  simp only [zm, List.map_cons, List.map_nil] at lp
  rw [run31 _ _ _ (by simp)]
  simp (maxSteps := 1000000) (disch := first | omega | decide | assumption | simp [scal]) [o_indexAddrS es_22, ze_22, o_buildSlice es_22 ze_22 (by decide) ba_22_1, o_fieldAddr fa_54_1 (by decide), loadA_eq ia_5, o_convI cv_5_3, o_fieldAddr fa_54_2 (by decide), loadA_eq ia_4, o_buildSlice es_22 ze_22 (by decide) ba_22_3, o_fieldAddr fa_54_3 (by decide), loadA_eq ia_50, o_fieldAddr fa_54_0 (by decide), o_indexAddrA ea_52, o_indexAddrA ea_51, o_convI cv_50_3, za_24, sz_24, o_fieldAddr fa_24_0 (by decide), loadA_eq ia_3, o_fieldAddr fa_24_1 (by decide), o_buildSlice es_22 ze_22 (by decide) ba_22_2, lenA_sl lk_55, o_indexAddrS es_55, ze_55, o_buildSlice es_55 ze_55 (by decide) ba_55_0, o_sliceS sl_55, ap_55, builtin_append ni_55, loadA_eq ia_24, o_buildSlice es_55 ze_55 (by decide) ba_55_1, lenA_sl lk_22, sz_3, want_some q31_44g4, want_some q31_75g1, want_some q31_75g8, t3, wn, lp, a58]
theorem r31B0 (hc : n % 2 = 0) (hg : g.tmod 2 = 0) : (shP r0 s0 r1 s1 r2 s2 n true g).length = 3 ∧ (shQ r0 s0 r1 s1 r2 s2 n true).length = 0 ∧ LL.run 31 [shV r0 s0 r1 s1 r2 s2 n true g] [] =
    some ⟨.tuple #[sl 0 0 3 3, sl 1 0 0 0, .bool (okP (shP r0 s0 r1 s1 r2 s2 n true g))], [zB (shP r0 s0 r1 s1 r2 s2 n true g), rtB (shQ r0 s0 r1 s1 r2 s2 n true)], []⟩ := by
  obtain ⟨P, R, hP, hR, l1, l2, bd, lp⟩ := bB0 r0 s0 r1 s1 r2 s2 n true g h8 hn
  have a58 := l58 r0 s0 r1 s1 r2 s2 n true g h8.2.2.2.2.2.2 P (by omega) (BdM_up bd (by omega)) 0 (rtC R)
  have eC : shC n true = 0 := by unfold shC; rw [cond_true, hc]
  have eB : shB0 true g = [2, 0, 1] := by unfold shB0; rw [cond_true, decide_eq_true hg, cond_true]
  have t2 : Int.tmod (n : Int) 2 = 0 := by rw [Int.tmod_eq_emod_of_nonneg (by omega)]; omega
  have t3 : IntKind.i64.wrap (1 + Int.tmod (n : Int) 3) = 1 + Int.tmod (n : Int) 3 := by have := tmod_bd (a := (n : Int)) 3 (by decide); exact wrap_i64_id (by omega) (by omega)
  have eL : shL r0 s0 r1 s1 r2 s2 n true = [] := by unfold shL; rw [eC]; rfl
  have eP : shP r0 s0 r1 s1 r2 s2 n true g = negP g P := by unfold shP; rw [eL, eB, hP]; rfl
  have eR : shQ r0 s0 r1 s1 r2 s2 n true = R := by unfold shQ; rw [eL, hR]; rfl
  rw [eP, eR, negP_len]
  refine ⟨l1, l2, go (by decide) ?_⟩
  rw [l1, show ((3 : Nat) : Int) = 3 from rfl] at a58
  clear eP eR eL eC eB hP hR bd
  have wn : IntKind.i64.wrap (n : Int) = n := wrap_i64_id (by omega) (by omega)
  simp only [rtB] at lp ⊢
  simp only [zB] at a58 lp ⊢
  generalize zm P = X at *
  generalize zm (negP g P) = Y at *
  generalize okP (negP g P) = Z at *
  generalize rtC R = RR at *
  simp only [zm, List.map_cons, List.map_nil] at lp
  rw [run31 _ _ _ (by simp)]
  simp (maxSteps := 1000000) (disch := first | omega | decide | assumption | simp [scal]) [o_indexAddrS es_22, ze_22, o_buildSlice es_22 ze_22 (by decide) ba_22_1, o_fieldAddr fa_54_1 (by decide), loadA_eq ia_5, o_convI cv_5_3, o_fieldAddr fa_54_2 (by decide), loadA_eq ia_4, o_buildSlice es_22 ze_22 (by decide) ba_22_3, o_fieldAddr fa_54_3 (by decide), loadA_eq ia_50, o_fieldAddr fa_54_0 (by decide), o_indexAddrA ea_52, o_indexAddrA ea_51, o_convI cv_50_3, za_24, sz_24, o_fieldAddr fa_24_0 (by decide), loadA_eq ia_3, o_fieldAddr fa_24_1 (by decide), o_buildSlice es_22 ze_22 (by decide) ba_22_2, lenA_sl lk_55, o_indexAddrS es_55, ze_55, o_buildSlice es_55 ze_55 (by decide) ba_55_0, o_sliceS sl_55, ap_55, builtin_append ni_55, loadA_eq ia_24, o_buildSlice es_55 ze_55 (by decide) ba_55_1, lenA_sl lk_22, sz_3, want_some q31_44g4, want_some q31_75g1, want_some q31_75g8, t2, t3, hg, wn, lp, a58]
theorem r31B1 (hc : n % 2 = 1) (hg : g.tmod 2 = 0) : (shP r0 s0 r1 s1 r2 s2 n true g).length = 4 ∧ (shQ r0 s0 r1 s1 r2 s2 n true).length = 1 ∧ LL.run 31 [shV r0 s0 r1 s1 r2 s2 n true g] [] =
    some ⟨.tuple #[sl 0 0 4 4, sl 1 0 1 1, .bool (okP (shP r0 s0 r1 s1 r2 s2 n true g))], [zB (shP r0 s0 r1 s1 r2 s2 n true g), rtB (shQ r0 s0 r1 s1 r2 s2 n true)], []⟩ := by
  obtain ⟨P, R, hP, hR, l1, l2, bd, lp⟩ := bB1 r0 s0 r1 s1 r2 s2 n true g h8 hn
  have a58 := l58 r0 s0 r1 s1 r2 s2 n true g h8.2.2.2.2.2.2 P (by omega) (BdM_up bd (by omega)) 1 (rtC R)
  have eC : shC n true = 1 := by unfold shC; rw [cond_true, hc]
  have eB : shB0 true g = [2, 0, 1] := by unfold shB0; rw [cond_true, decide_eq_true hg, cond_true]
  have t2 : Int.tmod (n : Int) 2 = 1 := by rw [Int.tmod_eq_emod_of_nonneg (by omega)]; omega
  have t3 : IntKind.i64.wrap (1 + Int.tmod (n : Int) 3) = 1 + Int.tmod (n : Int) 3 := by have := tmod_bd (a := (n : Int)) 3 (by decide); exact wrap_i64_id (by omega) (by omega)
  have eL : shL r0 s0 r1 s1 r2 s2 n true = [shR r0 s0] := by unfold shL; rw [eC]; rfl
  have eP : shP r0 s0 r1 s1 r2 s2 n true g = negP g P := by unfold shP; rw [eL, eB, hP]; rfl
  have eR : shQ r0 s0 r1 s1 r2 s2 n true = R := by unfold shQ; rw [eL, hR]; rfl
  rw [eP, eR, negP_len]
  refine ⟨l1, l2, go (by decide) ?_⟩
  rw [l1, show ((4 : Nat) : Int) = 4 from rfl] at a58
  clear eP eR eL eC eB hP hR bd
  have wn : IntKind.i64.wrap (n : Int) = n := wrap_i64_id (by omega) (by omega)
  simp only [rtB] at lp ⊢
  simp only [zB] at a58 lp ⊢
  generalize zm P = X at *
  generalize zm (negP g P) = Y at *
  generalize okP (negP g P) = Z at *
  generalize rtC R = RR at *
  simp only [zm, List.map_cons, List.map_nil] at lp
  rw [run31 _ _ _ (by simp)]
  simp (maxSteps := 1000000) (disch := first | omega | decide | assumption | simp [scal]) [o_indexAddrS es_22, ze_22, o_buildSlice es_22 ze_22 (by decide) ba_22_1, o_fieldAddr fa_54_1 (by decide), loadA_eq ia_5, o_convI cv_5_3, o_fieldAddr fa_54_2 (by decide), loadA_eq ia_4, o_buildSlice es_22 ze_22 (by decide) ba_22_3, o_fieldAddr fa_54_3 (by decide), loadA_eq ia_50, o_fieldAddr fa_54_0 (by decide), o_indexAddrA ea_52, o_indexAddrA ea_51, o_convI cv_50_3, za_24, sz_24, o_fieldAddr fa_24_0 (by decide), loadA_eq ia_3, o_fieldAddr fa_24_1 (by decide), o_buildSlice es_22 ze_22 (by decide) ba_22_2, lenA_sl lk_55, o_indexAddrS es_55, ze_55, o_buildSlice es_55 ze_55 (by decide) ba_55_0, o_sliceS sl_55, ap_55, builtin_append ni_55, loadA_eq ia_24, o_buildSlice es_55 ze_55 (by decide) ba_55_1, lenA_sl lk_22, sz_3, want_some q31_44g4, want_some q31_75g1, want_some q31_75g8, t2, t3, hg, wn, lp, a58]
theorem r31C0 (hc : n % 2 = 0) (hg : ¬ g.tmod 2 = 0) : (shP r0 s0 r1 s1 r2 s2 n true g).length = 3 ∧ (shQ r0 s0 r1 s1 r2 s2 n true).length = 0 ∧ LL.run 31 [shV r0 s0 r1 s1 r2 s2 n true g] [] =
    some ⟨.tuple #[sl 0 0 3 3, sl 1 0 0 0, .bool (okP (shP r0 s0 r1 s1 r2 s2 n true g))], [zB (shP r0 s0 r1 s1 r2 s2 n true g), rtB (shQ r0 s0 r1 s1 r2 s2 n true)], []⟩ := by
  obtain ⟨P, R, hP, hR, l1, l2, bd, lp⟩ := bC0 r0 s0 r1 s1 r2 s2 n true g h8 hn
  have a58 := l58 r0 s0 r1 s1 r2 s2 n true g h8.2.2.2.2.2.2 P (by omega) (BdM_up bd (by omega)) 0 (rtC R)
  have eC : shC n true = 0 := by unfold shC; rw [cond_true, hc]
  have eB : shB0 true g = [1, 1, 1] := by unfold shB0; rw [cond_true, decide_eq_false hg, cond_false]
  have t2 : Int.tmod (n : Int) 2 = 0 := by rw [Int.tmod_eq_emod_of_nonneg (by omega)]; omega
  have t3 : IntKind.i64.wrap (1 + Int.tmod (n : Int) 3) = 1 + Int.tmod (n : Int) 3 := by have := tmod_bd (a := (n : Int)) 3 (by decide); exact wrap_i64_id (by omega) (by omega)
  have eL : shL r0 s0 r1 s1 r2 s2 n true = [] := by unfold shL; rw [eC]; rfl
  have eP : shP r0 s0 r1 s1 r2 s2 n true g = negP g P := by unfold shP; rw [eL, eB, hP]; rfl
  have eR : shQ r0 s0 r1 s1 r2 s2 n true = R := by unfold shQ; rw [eL, hR]; rfl
  rw [eP, eR, negP_len]
  refine ⟨l1, l2, go (by decide) ?_⟩
  rw [l1, show ((3 : Nat) : Int) = 3 from rfl] at a58
  clear eP eR eL eC eB hP hR bd
  have wn : IntKind.i64.wrap (n : Int) = n := wrap_i64_id (by omega) (by omega)
  simp only [rtB] at lp ⊢
  simp only [zB] at a58 lp ⊢
  generalize zm P = X at *
  generalize zm (negP g P) = Y at *
  generalize okP (negP g P) = Z at *
  generalize rtC R = RR at *
  simp only [zm, List.map_cons, List.map_nil] at lp
  rw [run31 _ _ _ (by simp)]
  simp (maxSteps := 1000000) (disch := first | omega | decide | assumption | simp [scal]) [o_indexAddrS es_22, ze_22, o_buildSlice es_22 ze_22 (by decide) ba_22_1, o_fieldAddr fa_54_1 (by decide), loadA_eq ia_5, o_convI cv_5_3, o_fieldAddr fa_54_2 (by decide), loadA_eq ia_4, o_buildSlice es_22 ze_22 (by decide) ba_22_3, o_fieldAddr fa_54_3 (by decide), loadA_eq ia_50, o_fieldAddr fa_54_0 (by decide), o_indexAddrA ea_52, o_indexAddrA ea_51, o_convI cv_50_3, za_24, sz_24, o_fieldAddr fa_24_0 (by decide), loadA_eq ia_3, o_fieldAddr fa_24_1 (by decide), o_buildSlice es_22 ze_22 (by decide) ba_22_2, lenA_sl lk_55, o_indexAddrS es_55, ze_55, o_buildSlice es_55 ze_55 (by decide) ba_55_0, o_sliceS sl_55, ap_55, builtin_append ni_55, loadA_eq ia_24, o_buildSlice es_55 ze_55 (by decide) ba_55_1, lenA_sl lk_22, sz_3, want_some q31_44g4, want_some q31_75g1, want_some q31_75g8, t2, t3, hg, wn, lp, a58]
theorem r31C1 (hc : n % 2 = 1) (hg : ¬ g.tmod 2 = 0) : (shP r0 s0 r1 s1 r2 s2 n true g).length = 4 ∧ (shQ r0 s0 r1 s1 r2 s2 n true).length = 1 ∧ LL.run 31 [shV r0 s0 r1 s1 r2 s2 n true g] [] =
    some ⟨.tuple #[sl 0 0 4 4, sl 1 0 1 1, .bool (okP (shP r0 s0 r1 s1 r2 s2 n true g))], [zB (shP r0 s0 r1 s1 r2 s2 n true g), rtB (shQ r0 s0 r1 s1 r2 s2 n true)], []⟩ := by
  obtain ⟨P, R, hP, hR, l1, l2, bd, lp⟩ := bC1 r0 s0 r1 s1 r2 s2 n true g h8 hn
  have a58 := l58 r0 s0 r1 s1 r2 s2 n true g h8.2.2.2.2.2.2 P (by omega) (BdM_up bd (by omega)) 1 (rtC R)
  have eC : shC n true = 1 := by unfold shC; rw [cond_true, hc]
  have eB : shB0 true g = [1, 1, 1] := by unfold shB0; rw [cond_true, decide_eq_false hg, cond_false]
  have t2 : Int.tmod (n : Int) 2 = 1 := by rw [Int.tmod_eq_emod_of_nonneg (by omega)]; omega
  have t3 : IntKind.i64.wrap (1 + Int.tmod (n : Int) 3) = 1 + Int.tmod (n : Int) 3 := by have := tmod_bd (a := (n : Int)) 3 (by decide); exact wrap_i64_id (by omega) (by omega)
  have eL : shL r0 s0 r1 s1 r2 s2 n true = [shR r0 s0] := by unfold shL; rw [eC]; rfl
  have eP : shP r0 s0 r1 s1 r2 s2 n true g = negP g P := by unfold shP; rw [eL, eB, hP]; rfl
  have eR : shQ r0 s0 r1 s1 r2 s2 n true = R := by unfold shQ; rw [eL, hR]; rfl
  rw [eP, eR, negP_len]
  refine ⟨l1, l2, go (by decide) ?_⟩
  rw [l1, show ((4 : Nat) : Int) = 4 from rfl] at a58
  clear eP eR eL eC eB hP hR bd
  have wn : IntKind.i64.wrap (n : Int) = n := wrap_i64_id (by omega) (by omega)
  simp only [rtB] at lp ⊢
  simp only [zB] at a58 lp ⊢
  generalize zm P = X at *
  generalize zm (negP g P) = Y at *
  generalize okP (negP g P) = Z at *
  generalize rtC R = RR at *
  simp only [zm, List.map_cons, List.map_nil] at lp
  rw [run31 _ _ _ (by simp)]
  simp (maxSteps := 1000000) (disch := first | omega | decide | assumption | simp [scal]) [o_indexAddrS es_22, ze_22, o_buildSlice es_22 ze_22 (by decide) ba_22_1, o_fieldAddr fa_54_1 (by decide), loadA_eq ia_5, o_convI cv_5_3, o_fieldAddr fa_54_2 (by decide), loadA_eq ia_4, o_buildSlice es_22 ze_22 (by decide) ba_22_3, o_fieldAddr fa_54_3 (by decide), loadA_eq ia_50, o_fieldAddr fa_54_0 (by decide), o_indexAddrA ea_52, o_indexAddrA ea_51, o_convI cv_50_3, za_24, sz_24, o_fieldAddr fa_24_0 (by decide), loadA_eq ia_3, o_fieldAddr fa_24_1 (by decide), o_buildSlice es_22 ze_22 (by decide) ba_22_2, lenA_sl lk_55, o_indexAddrS es_55, ze_55, o_buildSlice es_55 ze_55 (by decide) ba_55_0, o_sliceS sl_55, ap_55, builtin_append ni_55, loadA_eq ia_24, o_buildSlice es_55 ze_55 (by decide) ba_55_1, lenA_sl lk_22, sz_3, want_some q31_44g4, want_some q31_75g1, want_some q31_75g8, t2, t3, hg, wn, lp, a58]
theorem k31 (o : Bool) (h : List Blk) : callH LL 31 [shV r0 s0 r1 s1 r2 s2 n o g] h = some ⟨.tuple #[sl h.length 0 (shP r0 s0 r1 s1 r2 s2 n o g).length (shP r0 s0 r1 s1 r2 s2 n o g).length, sl (h.length + 1) 0 (shQ r0 s0 r1 s1 r2 s2 n o).length (shQ r0 s0 r1 s1 r2 s2 n o).length, .bool (okP (shP r0 s0 r1 s1 r2 s2 n o g))], h ++ [zB (shP r0 s0 r1 s1 r2 s2 n o g), rtB (shQ r0 s0 r1 s1 r2 s2 n o)], [], []⟩ ∧
    2 ≤ (shP r0 s0 r1 s1 r2 s2 n o g).length ∧ (shP r0 s0 r1 s1 r2 s2 n o g).length ≤ 4 ∧ (shQ r0 s0 r1 s1 r2 s2 n o).length ≤ 3 := by
  have key : ∃ a k : Nat, ((shP r0 s0 r1 s1 r2 s2 n o g).length = a ∧ (shQ r0 s0 r1 s1 r2 s2 n o).length = k ∧ LL.run 31 [shV r0 s0 r1 s1 r2 s2 n o g] [] =
      some ⟨.tuple #[sl 0 0 a a, sl 1 0 k k, .bool (okP (shP r0 s0 r1 s1 r2 s2 n o g))], [zB (shP r0 s0 r1 s1 r2 s2 n o g), rtB (shQ r0 s0 r1 s1 r2 s2 n o)], []⟩) ∧ 2 ≤ a ∧ a ≤ 4 ∧ k ≤ 3 := by
    cases o
    · rcases (by omega : n % 3 = 0 ∨ n % 3 = 1 ∨ n % 3 = 2) with hc | hc | hc
      · exact ⟨2, 1, r31A1 r0 s0 r1 s1 r2 s2 n g h8 hn hc, by decide, by decide, by decide⟩
      · exact ⟨3, 2, r31A2 r0 s0 r1 s1 r2 s2 n g h8 hn hc, by decide, by decide, by decide⟩
      · exact ⟨4, 3, r31A3 r0 s0 r1 s1 r2 s2 n g h8 hn hc, by decide, by decide, by decide⟩
    · by_cases hg : g.tmod 2 = 0
      · rcases (by omega : n % 2 = 0 ∨ n % 2 = 1) with hc | hc
        · exact ⟨3, 0, r31B0 r0 s0 r1 s1 r2 s2 n g h8 hn hc hg, by decide, by decide, by decide⟩
        · exact ⟨4, 1, r31B1 r0 s0 r1 s1 r2 s2 n g h8 hn hc hg, by decide, by decide, by decide⟩
      · rcases (by omega : n % 2 = 0 ∨ n % 2 = 1) with hc | hc
        · exact ⟨3, 0, r31C0 r0 s0 r1 s1 r2 s2 n g h8 hn hc hg, by decide, by decide, by decide⟩
        · exact ⟨4, 1, r31C1 r0 s0 r1 s1 r2 s2 n g h8 hn hc hg, by decide, by decide, by decide⟩
  obtain ⟨a, k, ⟨e1, e2, e3⟩, h1, h2, h3⟩ := key
  rw [e1, e2]
  refine ⟨callN_none rfl (fun _ => rfl) e3 (by intro blk hb; simp only [List.mem_cons, List.not_mem_nil, or_false] at hb; rcases hb with rfl | rfl <;> exact noIdB_flat) (by simp [renV, dep, optAll]), h1, h2, h3⟩
end
end Go.Proofs.Ytkmompbfcgjgmaa.nt
namespace Go.Proofs.Ytkmompbfcgjgmaa.nt
open Go.GE
set_option linter.unusedVariables false
set_option linter.unusedSimpArgs false
set_option linter.unusedSectionVars false
set_option maxRecDepth 100000
set_option maxHeartbeats 4000000
attribute [local simp] runOps_nil runOps_cons runOpsF_nil runOpsF_cons fstS_some fstF_some opStep_eq want_none oStep_true oStep_false fin_pure fin_read fin_alloc fin_write storeB wrN cellV addWr o_move o_assign o_pick o_alloc o_box o_load o_store o_nilCheck o_bin o_un o_extract o_callV o_callB o_callI callV_f callV_y callV_fc o_makeFunc partsA Instr.fill builtin_len builtin_max2 bin_add bin_sub bin_mul bin_quo bin_rem bin_lss bin_leq bin_gtr bin_geq bin_eql bin_neq un_neg un_not bin_shr bin_shl wrap_u64_id opd opds optAll putO nbeq nblt constOk isC ops sub cl cr co bodyOf thenS_normal thenS_ret thenS_exit thenS_goto afterN_normal afterN_ret afterN_exit afterN_goto condS_true condS_false blockS_normal blockS_ret blockS_exit blockS_goto headS normS normK_eq fixS_nil fixS_cons fix1 fixV emptyB keepO_nil keepO_cons roundC_normal roundC_exit roundC_ret roundC_goto sweep_eq sweepD rnm pickR pickW rootsB ptrT renT ptrFn renFn ptrB_flat ptrB_non renB_flat renB_non plainS_some drawS_some fpsOk disj unord range' dropTo enumT undef wrap_i64_id Value.cells mkCells ptrTo scal cellsAt rdN endS_ret resultsA Option.bind_some tupV finish reachN dep ptrL_eq ptrL renL_eq renL ptrV_bool ptrV_int ptrV_string ptrV_nilFunc ptrV_nilIface ptrV_nilPtr ptrV_ptr ptrV_nilSl ptrV_sl ptrV_iface ptrV_agg ptrV_tuple ptrV_func renV_bool renV_int renV_string renV_nilFunc renV_nilIface renV_nilPtr renV_ptr renV_nilSl renV_sl renV_iface renV_agg renV_tuple renV_func gotoS_goto gotoS_normal gotoS_exit gotoS_ret skip_seq sliceE bnd bndHi intOf optOpd keepT_nil keepT_cons keepC_t keepC_f lk_nil lk_cons lkC_t lkC_f has_nil has_cons hasC_t hasC_f rep_nil rep_cons repC_t repC_f put_eq putC_t putC_f mem_nil mem_cons memC_t memC_f idx_nil idx_cons idxC_t idxC_f reach_nil reachP_cons reachQ_t reachQ_f ptrB_dead renB_dead ins_eq
attribute [local simp] n6_1s n6_3s n6_6s n6_9s n6_10s n6_8s n6_11s n6_7s n6_5s n6_13s n6_15s n6_18s n6_22s n6_25s n6_26s n6_24s n6_30s n6_33s n6_35s n6_36s n6_34s n6_32s n6_38s n6_40s n6_42s n6_43s n6_41s n6_39s n6_37s n6_31s n6_29s n6_28s n6_44s n6_27s n6_23s n6_21s n6_20s n6_20g n6_19s n6_17s n6_46s n6_48s n6_50s n6_52s n6_54s n6_55s n6_53s n6_51s n6_49s n6_47s n6_45s n6_16s n6_14s n6_12s n6_4s n6_2s n6_0s Try.f6
def inX (X Y r : Int × Int) : Bool := !(leR r X) && leR r Y
def cA (X Y : Int × Int) : List (Int × Int) → Nat
  | [] => 0
  | r :: l => (bif inX X Y r then 1 else 0) + cA X Y l
def nwR (r : Int × Int) : Option (Int × Int) → Bool
  | none => true
  | some s => !leR r s
def cO (X Y : Int × Int) : Option (Int × Int) → List (Int × Int) → Nat
  | _, [] => 0
  | pv, r :: l => (bif inX X Y r && nwR r pv then 1 else 0) + cO X Y (some r) l
/-- a fraction by numbers, as tied makes it -/
def okX (X : Int × Int) : Prop := -32 ≤ X.1 ∧ X.1 ≤ 32 ∧ 2 ≤ X.2 ∧ X.2 ≤ 4
theorem tiX_ok (a b : Int) : okX (tiX a b) := by
  have := tmod_bd (a := a) 33 (by decide)
  unfold okX tiX
  simp only []
  omega
theorem tie_ok (a b u v : Int) : okX (tie a b u v).1 ∧ okX (tie a b u v).2 ∧ (tie a b u v).1.1 * (tie a b u v).2.2 ≤ (tie a b u v).2.1 * (tie a b u v).1.2 := by
  unfold tie
  split
  · exact ⟨tiX_ok _ _, tiX_ok _ _, by simp only []; omega⟩
  · exact ⟨tiX_ok _ _, tiX_ok _ _, by simp only []; omega⟩
theorem mul_4 {M x b : Int} (hM : 0 ≤ M) (hx : -M ≤ x ∧ x ≤ M) (hb : 0 ≤ b ∧ b ≤ 4) : -(4 * M) ≤ x * b ∧ x * b ≤ 4 * M := by
  rcases (by omega : b = 0 ∨ b = 1 ∨ b = 2 ∨ b = 3 ∨ b = 4) with rfl | rfl | rfl | rfl | rfl <;> omega
theorem k33X {r X : Int × Int} (hr : okRt r) (hX : okX X) (h : List Blk) : callH LL 33 [.agg #[iv r.1, iv r.2], .agg #[iv X.1, iv X.2]] h = some ⟨.bool (leR r X), h, [], []⟩ := by
  unfold okRt okX at *
  have e1 := mul_4 (M := 3) (x := r.1) (b := X.2) (by omega) (by omega) (by omega)
  have e2 := mul_4 (M := 32) (x := X.1) (b := r.2) (by omega) (by omega) (by omega)
  exact k33 r.1 r.2 X.1 X.2 (by unfold Sm; omega) (by unfold Sm; omega) h
theorem k33R {r s : Int × Int} (hr : okRt r) (hs : okRt s) (h : List Blk) : callH LL 33 [.agg #[iv r.1, iv r.2], .agg #[iv s.1, iv s.2]] h = some ⟨.bool (leR r s), h, [], []⟩ := by
  unfold okRt at *
  have e1 := mul_4 (M := 3) (x := r.1) (b := s.2) (by omega) (by omega) (by omega)
  have e2 := mul_4 (M := 3) (x := s.1) (b := r.2) (by omega) (by omega) (by omega)
  exact k33 r.1 r.2 s.1 s.2 (by unfold Sm; omega) (by unfold Sm; omega) h
section
variable (pl : Nat) (PC : List Value) (X Y : Int × Int) (hX : okX X) (hY : okX Y)
include hX hY
theorem l6_0_0 (u a : Nat) (hu : u ≤ 10) (ha : a ≤ 10) : lpB Try.prog LL ⟨6, 139, 0, none⟩ n6_20 n6_21 ⟨[(7, sl 0 0 pl pl), (8, sl 1 0 0 0), (10, pp 2), (11, pp 3), (12, iv u), (13, iv a), (39, sl 1 0 0 0), (40, iv 0), (41, iv 0)], [.cells PC 1 true true, .cells [] 2 true true, bxR X.1 X.2, bxR Y.1 Y.2], []⟩ = some (.exit 0, ⟨[(7, sl 0 0 pl pl), (10, pp 1), (11, pp 2), (12, iv (u + cO X Y none [] : Nat)), (13, iv (a + cA X Y [] : Nat))], [.cells PC 1 true true, bxR X.1 X.2, bxR Y.1 Y.2], []⟩) := by
  simp only [cO, cA, Nat.add_zero]
  rw [lpB_eq]
  simp (maxSteps := 1000000) (disch := first | omega | decide | assumption | simp [scal]) [loadA_eq ia_54, loadA_eq ia_51, za_24, sz_24, lenA_sl lk_55, o_indexAddrS es_55, loadA_eq ia_24, want_some q6_33g3, want_some q6_40g2, want_some q6_54g2, want_some q6_54g6, want_some q6_54g10, want_some q6_54g14, want_some q6_54g19, want_some q6_54g26, want_some q6_54g31, want_some q6_54g38]
end
section
variable (pl : Nat) (PC : List Value) (X Y : Int × Int) (hX : okX X) (hY : okX Y) (q0 : Int × Int) (h0 : okRt q0)
include hX hY h0
theorem l6_1_1 (u a : Nat) (hu : u ≤ 10) (ha : a ≤ 10) : lpB Try.prog LL ⟨6, 139, 0, none⟩ n6_20 n6_21 ⟨[(7, sl 0 0 pl pl), (8, sl 1 0 1 1), (10, pp 2), (11, pp 3), (12, iv u), (13, iv a), (39, sl 1 0 1 1), (40, iv 1), (41, iv 1)], [.cells PC 1 true true, .cells [iv q0.1, iv q0.2] 2 true true, bxR X.1 X.2, bxR Y.1 Y.2], []⟩ = some (.exit 0, ⟨[(7, sl 0 0 pl pl), (10, pp 1), (11, pp 2), (12, iv (u + cO X Y (some q0) [] : Nat)), (13, iv (a + cA X Y [] : Nat))], [.cells PC 1 true true, bxR X.1 X.2, bxR Y.1 Y.2], []⟩) := by
  simp only [cO, cA, Nat.add_zero]
  rw [lpB_eq]
  simp (maxSteps := 1000000) (disch := first | omega | decide | assumption | simp [scal]) [loadA_eq ia_54, loadA_eq ia_51, za_24, sz_24, lenA_sl lk_55, o_indexAddrS es_55, loadA_eq ia_24, want_some q6_33g3, want_some q6_40g2, want_some q6_54g2, want_some q6_54g6, want_some q6_54g10, want_some q6_54g14, want_some q6_54g19, want_some q6_54g26, want_some q6_54g31, want_some q6_54g38]
theorem l6_1_0 (u a : Nat) (hu : u ≤ 0) (ha : a ≤ 0) : lpB Try.prog LL ⟨6, 139, 0, none⟩ n6_20 n6_21 ⟨[(7, sl 0 0 pl pl), (8, sl 1 0 1 1), (10, pp 2), (11, pp 3), (12, iv u), (13, iv a), (39, sl 1 0 1 1), (40, iv 1), (41, iv 0)], [.cells PC 1 true true, .cells [iv q0.1, iv q0.2] 2 true true, bxR X.1 X.2, bxR Y.1 Y.2], []⟩ = some (.exit 0, ⟨[(7, sl 0 0 pl pl), (10, pp 1), (11, pp 2), (12, iv (u + cO X Y none [q0] : Nat)), (13, iv (a + cA X Y [q0] : Nat))], [.cells PC 1 true true, bxR X.1 X.2, bxR Y.1 Y.2], []⟩) := by
  have b1 := fun h => k33X h0 hX h
  have b2 := fun h => k33X h0 hY h
  have f0 := l6_1_1 pl PC X Y hX hY q0 h0 u a (by omega) (by omega)
  have f1 := l6_1_1 pl PC X Y hX hY q0 h0 u (a + 1) (by omega) (by omega)
  have f2 := l6_1_1 pl PC X Y hX hY q0 h0 (u + 1) (a + 1) (by omega) (by omega)
  rw [show cO X Y none (q0 :: []) = (bif inX X Y q0 && nwR q0 none then 1 else 0) + cO X Y (some q0) [] from rfl, show cA X Y (q0 :: []) = (bif inX X Y q0 then 1 else 0) + cA X Y [] from rfl]
  generalize cO X Y (some q0) [] = ZO at *
  generalize cA X Y [] = ZA at *
  simp only [inX, nwR]
  clear hX hY h0
  cases hA : leR q0 X <;> rw [hA] at b1
  · cases hB : leR q0 Y <;> rw [hB] at b2
    · simp only [Bool.not_true, Bool.not_false, Bool.true_and, Bool.false_and, Bool.and_true, Bool.and_false, cond_true, cond_false, Nat.zero_add, ← Nat.add_assoc]
      clear f1 f2
      generalize hZ1 : u + ZO = Z1 at f0 ⊢
      generalize hZ2 : a + ZA = Z2 at f0 ⊢
      try simp only [cast1] at f0
      try simp only [Int.natCast_zero] at f0
      rw [lpB_eq]
      simp (maxSteps := 1000000) (disch := first | omega | decide | assumption | simp [scal]) [loadA_eq ia_54, loadA_eq ia_51, za_24, sz_24, lenA_sl lk_55, o_indexAddrS es_55, loadA_eq ia_24, want_some q6_33g3, want_some q6_40g2, want_some q6_54g2, want_some q6_54g6, want_some q6_54g10, want_some q6_54g14, want_some q6_54g19, want_some q6_54g26, want_some q6_54g31, want_some q6_54g38, b1, b2, f0]
    · simp only [Bool.not_true, Bool.not_false, Bool.true_and, Bool.false_and, Bool.and_true, Bool.and_false, cond_true, cond_false, Nat.zero_add, ← Nat.add_assoc]
      clear f0 f1
      generalize hZ1 : u + 1 + ZO = Z1 at f2 ⊢
      generalize hZ2 : a + 1 + ZA = Z2 at f2 ⊢
      try simp only [cast1] at f2
      try simp only [Int.natCast_zero] at f2
      rw [lpB_eq]
      simp (maxSteps := 1000000) (disch := first | omega | decide | assumption | simp [scal]) [loadA_eq ia_54, loadA_eq ia_51, za_24, sz_24, lenA_sl lk_55, o_indexAddrS es_55, loadA_eq ia_24, want_some q6_33g3, want_some q6_40g2, want_some q6_54g2, want_some q6_54g6, want_some q6_54g10, want_some q6_54g14, want_some q6_54g19, want_some q6_54g26, want_some q6_54g31, want_some q6_54g38, b1, b2, f2]
  · simp only [Bool.not_true, Bool.not_false, Bool.true_and, Bool.false_and, Bool.and_true, Bool.and_false, cond_true, cond_false, Nat.zero_add, ← Nat.add_assoc]
    clear f1 f2
    generalize hZ1 : u + ZO = Z1 at f0 ⊢
    generalize hZ2 : a + ZA = Z2 at f0 ⊢
    try simp only [cast1] at f0
    try simp only [Int.natCast_zero] at f0
    rw [lpB_eq]
    simp (maxSteps := 1000000) (disch := first | omega | decide | assumption | simp [scal]) [loadA_eq ia_54, loadA_eq ia_51, za_24, sz_24, lenA_sl lk_55, o_indexAddrS es_55, loadA_eq ia_24, want_some q6_33g3, want_some q6_40g2, want_some q6_54g2, want_some q6_54g6, want_some q6_54g10, want_some q6_54g14, want_some q6_54g19, want_some q6_54g26, want_some q6_54g31, want_some q6_54g38, b1, b2, f0]
end
section
variable (pl : Nat) (PC : List Value) (X Y : Int × Int) (hX : okX X) (hY : okX Y) (q0 q1 : Int × Int) (h0 : okRt q0) (h1 : okRt q1)
include hX hY h0 h1
theorem l6_2_2 (u a : Nat) (hu : u ≤ 10) (ha : a ≤ 10) : lpB Try.prog LL ⟨6, 139, 0, none⟩ n6_20 n6_21 ⟨[(7, sl 0 0 pl pl), (8, sl 1 0 2 2), (10, pp 2), (11, pp 3), (12, iv u), (13, iv a), (39, sl 1 0 2 2), (40, iv 2), (41, iv 2)], [.cells PC 1 true true, .cells [iv q0.1, iv q0.2, iv q1.1, iv q1.2] 2 true true, bxR X.1 X.2, bxR Y.1 Y.2], []⟩ = some (.exit 0, ⟨[(7, sl 0 0 pl pl), (10, pp 1), (11, pp 2), (12, iv (u + cO X Y (some q1) [] : Nat)), (13, iv (a + cA X Y [] : Nat))], [.cells PC 1 true true, bxR X.1 X.2, bxR Y.1 Y.2], []⟩) := by
  simp only [cO, cA, Nat.add_zero]
  rw [lpB_eq]
  simp (maxSteps := 1000000) (disch := first | omega | decide | assumption | simp [scal]) [loadA_eq ia_54, loadA_eq ia_51, za_24, sz_24, lenA_sl lk_55, o_indexAddrS es_55, loadA_eq ia_24, want_some q6_33g3, want_some q6_40g2, want_some q6_54g2, want_some q6_54g6, want_some q6_54g10, want_some q6_54g14, want_some q6_54g19, want_some q6_54g26, want_some q6_54g31, want_some q6_54g38]
theorem l6_2_1 (u a : Nat) (hu : u ≤ 1) (ha : a ≤ 1) : lpB Try.prog LL ⟨6, 139, 0, none⟩ n6_20 n6_21 ⟨[(7, sl 0 0 pl pl), (8, sl 1 0 2 2), (10, pp 2), (11, pp 3), (12, iv u), (13, iv a), (39, sl 1 0 2 2), (40, iv 2), (41, iv 1)], [.cells PC 1 true true, .cells [iv q0.1, iv q0.2, iv q1.1, iv q1.2] 2 true true, bxR X.1 X.2, bxR Y.1 Y.2], []⟩ = some (.exit 0, ⟨[(7, sl 0 0 pl pl), (10, pp 1), (11, pp 2), (12, iv (u + cO X Y (some q0) [q1] : Nat)), (13, iv (a + cA X Y [q1] : Nat))], [.cells PC 1 true true, bxR X.1 X.2, bxR Y.1 Y.2], []⟩) := by
  have b1 := fun h => k33X h1 hX h
  have b2 := fun h => k33X h1 hY h
  have b3 := fun h => k33R h1 h0 h
  have f0 := l6_2_2 pl PC X Y hX hY q0 q1 h0 h1 u a (by omega) (by omega)
  have f1 := l6_2_2 pl PC X Y hX hY q0 q1 h0 h1 u (a + 1) (by omega) (by omega)
  have f2 := l6_2_2 pl PC X Y hX hY q0 q1 h0 h1 (u + 1) (a + 1) (by omega) (by omega)
  rw [show cO X Y (some q0) (q1 :: []) = (bif inX X Y q1 && nwR q1 (some q0) then 1 else 0) + cO X Y (some q1) [] from rfl, show cA X Y (q1 :: []) = (bif inX X Y q1 then 1 else 0) + cA X Y [] from rfl]
  generalize cO X Y (some q1) [] = ZO at *
  generalize cA X Y [] = ZA at *
  simp only [inX, nwR]
  clear hX hY h0 h1
  cases hA : leR q1 X <;> rw [hA] at b1
  · cases hB : leR q1 Y <;> rw [hB] at b2
    · simp only [Bool.not_true, Bool.not_false, Bool.true_and, Bool.false_and, Bool.and_true, Bool.and_false, cond_true, cond_false, Nat.zero_add, ← Nat.add_assoc]
      clear f1 f2
      generalize hZ1 : u + ZO = Z1 at f0 ⊢
      generalize hZ2 : a + ZA = Z2 at f0 ⊢
      try simp only [cast1] at f0
      try simp only [Int.natCast_zero] at f0
      rw [lpB_eq]
      simp (maxSteps := 1000000) (disch := first | omega | decide | assumption | simp [scal]) [loadA_eq ia_54, loadA_eq ia_51, za_24, sz_24, lenA_sl lk_55, o_indexAddrS es_55, loadA_eq ia_24, want_some q6_33g3, want_some q6_40g2, want_some q6_54g2, want_some q6_54g6, want_some q6_54g10, want_some q6_54g14, want_some q6_54g19, want_some q6_54g26, want_some q6_54g31, want_some q6_54g38, b1, b2, b3, f0]
    · cases hC : leR q1 q0 <;> rw [hC] at b3
      · simp only [Bool.not_true, Bool.not_false, Bool.true_and, Bool.false_and, Bool.and_true, Bool.and_false, cond_true, cond_false, Nat.zero_add, ← Nat.add_assoc]
        clear f0 f1
        generalize hZ1 : u + 1 + ZO = Z1 at f2 ⊢
        generalize hZ2 : a + 1 + ZA = Z2 at f2 ⊢
        try simp only [cast1] at f2
        try simp only [Int.natCast_zero] at f2
        rw [lpB_eq]
        simp (maxSteps := 1000000) (disch := first | omega | decide | assumption | simp [scal]) [loadA_eq ia_54, loadA_eq ia_51, za_24, sz_24, lenA_sl lk_55, o_indexAddrS es_55, loadA_eq ia_24, want_some q6_33g3, want_some q6_40g2, want_some q6_54g2, want_some q6_54g6, want_some q6_54g10, want_some q6_54g14, want_some q6_54g19, want_some q6_54g26, want_some q6_54g31, want_some q6_54g38, b1, b2, b3, f2]
      · simp only [Bool.not_true, Bool.not_false, Bool.true_and, Bool.false_and, Bool.and_true, Bool.and_false, cond_true, cond_false, Nat.zero_add, ← Nat.add_assoc]
        clear f0 f2
        generalize hZ1 : u + ZO = Z1 at f1 ⊢
        generalize hZ2 : a + 1 + ZA = Z2 at f1 ⊢
        try simp only [cast1] at f1
        try simp only [Int.natCast_zero] at f1
        rw [lpB_eq]
        simp (maxSteps := 1000000) (disch := first | omega | decide | assumption | simp [scal]) [loadA_eq ia_54, loadA_eq ia_51, za_24, sz_24, lenA_sl lk_55, o_indexAddrS es_55, loadA_eq ia_24, want_some q6_33g3, want_some q6_40g2, want_some q6_54g2, want_some q6_54g6, want_some q6_54g10, want_some q6_54g14, want_some q6_54g19, want_some q6_54g26, want_some q6_54g31, want_some q6_54g38, b1, b2, b3, f1]
  · simp only [Bool.not_true, Bool.not_false, Bool.true_and, Bool.false_and, Bool.and_true, Bool.and_false, cond_true, cond_false, Nat.zero_add, ← Nat.add_assoc]
    clear f1 f2
    generalize hZ1 : u + ZO = Z1 at f0 ⊢
    generalize hZ2 : a + ZA = Z2 at f0 ⊢
    try simp only [cast1] at f0
    try simp only [Int.natCast_zero] at f0
    rw [lpB_eq]
    simp (maxSteps := 1000000) (disch := first | omega | decide | assumption | simp [scal]) [loadA_eq ia_54, loadA_eq ia_51, za_24, sz_24, lenA_sl lk_55, o_indexAddrS es_55, loadA_eq ia_24, want_some q6_33g3, want_some q6_40g2, want_some q6_54g2, want_some q6_54g6, want_some q6_54g10, want_some q6_54g14, want_some q6_54g19, want_some q6_54g26, want_some q6_54g31, want_some q6_54g38, b1, b2, b3, f0]
theorem l6_2_0 (u a : Nat) (hu : u ≤ 0) (ha : a ≤ 0) : lpB Try.prog LL ⟨6, 139, 0, none⟩ n6_20 n6_21 ⟨[(7, sl 0 0 pl pl), (8, sl 1 0 2 2), (10, pp 2), (11, pp 3), (12, iv u), (13, iv a), (39, sl 1 0 2 2), (40, iv 2), (41, iv 0)], [.cells PC 1 true true, .cells [iv q0.1, iv q0.2, iv q1.1, iv q1.2] 2 true true, bxR X.1 X.2, bxR Y.1 Y.2], []⟩ = some (.exit 0, ⟨[(7, sl 0 0 pl pl), (10, pp 1), (11, pp 2), (12, iv (u + cO X Y none [q0, q1] : Nat)), (13, iv (a + cA X Y [q0, q1] : Nat))], [.cells PC 1 true true, bxR X.1 X.2, bxR Y.1 Y.2], []⟩) := by
  have b1 := fun h => k33X h0 hX h
  have b2 := fun h => k33X h0 hY h
  have f0 := l6_2_1 pl PC X Y hX hY q0 q1 h0 h1 u a (by omega) (by omega)
  have f1 := l6_2_1 pl PC X Y hX hY q0 q1 h0 h1 u (a + 1) (by omega) (by omega)
  have f2 := l6_2_1 pl PC X Y hX hY q0 q1 h0 h1 (u + 1) (a + 1) (by omega) (by omega)
  rw [show cO X Y none (q0 :: [q1]) = (bif inX X Y q0 && nwR q0 none then 1 else 0) + cO X Y (some q0) [q1] from rfl, show cA X Y (q0 :: [q1]) = (bif inX X Y q0 then 1 else 0) + cA X Y [q1] from rfl]
  generalize cO X Y (some q0) [q1] = ZO at *
  generalize cA X Y [q1] = ZA at *
  simp only [inX, nwR]
  clear hX hY h0 h1
  cases hA : leR q0 X <;> rw [hA] at b1
  · cases hB : leR q0 Y <;> rw [hB] at b2
    · simp only [Bool.not_true, Bool.not_false, Bool.true_and, Bool.false_and, Bool.and_true, Bool.and_false, cond_true, cond_false, Nat.zero_add, ← Nat.add_assoc]
      clear f1 f2
      generalize hZ1 : u + ZO = Z1 at f0 ⊢
      generalize hZ2 : a + ZA = Z2 at f0 ⊢
      try simp only [cast1] at f0
      try simp only [Int.natCast_zero] at f0
      rw [lpB_eq]
      simp (maxSteps := 1000000) (disch := first | omega | decide | assumption | simp [scal]) [loadA_eq ia_54, loadA_eq ia_51, za_24, sz_24, lenA_sl lk_55, o_indexAddrS es_55, loadA_eq ia_24, want_some q6_33g3, want_some q6_40g2, want_some q6_54g2, want_some q6_54g6, want_some q6_54g10, want_some q6_54g14, want_some q6_54g19, want_some q6_54g26, want_some q6_54g31, want_some q6_54g38, b1, b2, f0]
    · simp only [Bool.not_true, Bool.not_false, Bool.true_and, Bool.false_and, Bool.and_true, Bool.and_false, cond_true, cond_false, Nat.zero_add, ← Nat.add_assoc]
      clear f0 f1
      generalize hZ1 : u + 1 + ZO = Z1 at f2 ⊢
      generalize hZ2 : a + 1 + ZA = Z2 at f2 ⊢
      try simp only [cast1] at f2
      try simp only [Int.natCast_zero] at f2
      rw [lpB_eq]
      simp (maxSteps := 1000000) (disch := first | omega | decide | assumption | simp [scal]) [loadA_eq ia_54, loadA_eq ia_51, za_24, sz_24, lenA_sl lk_55, o_indexAddrS es_55, loadA_eq ia_24, want_some q6_33g3, want_some q6_40g2, want_some q6_54g2, want_some q6_54g6, want_some q6_54g10, want_some q6_54g14, want_some q6_54g19, want_some q6_54g26, want_some q6_54g31, want_some q6_54g38, b1, b2, f2]
  · simp only [Bool.not_true, Bool.not_false, Bool.true_and, Bool.false_and, Bool.and_true, Bool.and_false, cond_true, cond_false, Nat.zero_add, ← Nat.add_assoc]
    clear f1 f2
    generalize hZ1 : u + ZO = Z1 at f0 ⊢
    generalize hZ2 : a + ZA = Z2 at f0 ⊢
    try simp only [cast1] at f0
    try simp only [Int.natCast_zero] at f0
    rw [lpB_eq]
    simp (maxSteps := 1000000) (disch := first | omega | decide | assumption | simp [scal]) [loadA_eq ia_54, loadA_eq ia_51, za_24, sz_24, lenA_sl lk_55, o_indexAddrS es_55, loadA_eq ia_24, want_some q6_33g3, want_some q6_40g2, want_some q6_54g2, want_some q6_54g6, want_some q6_54g10, want_some q6_54g14, want_some q6_54g19, want_some q6_54g26, want_some q6_54g31, want_some q6_54g38, b1, b2, f0]
end
section
variable (pl : Nat) (PC : List Value) (X Y : Int × Int) (hX : okX X) (hY : okX Y) (q0 q1 q2 : Int × Int) (h0 : okRt q0) (h1 : okRt q1) (h2 : okRt q2)
include hX hY h0 h1 h2
theorem l6_3_3 (u a : Nat) (hu : u ≤ 10) (ha : a ≤ 10) : lpB Try.prog LL ⟨6, 139, 0, none⟩ n6_20 n6_21 ⟨[(7, sl 0 0 pl pl), (8, sl 1 0 3 3), (10, pp 2), (11, pp 3), (12, iv u), (13, iv a), (39, sl 1 0 3 3), (40, iv 3), (41, iv 3)], [.cells PC 1 true true, .cells [iv q0.1, iv q0.2, iv q1.1, iv q1.2, iv q2.1, iv q2.2] 2 true true, bxR X.1 X.2, bxR Y.1 Y.2], []⟩ = some (.exit 0, ⟨[(7, sl 0 0 pl pl), (10, pp 1), (11, pp 2), (12, iv (u + cO X Y (some q2) [] : Nat)), (13, iv (a + cA X Y [] : Nat))], [.cells PC 1 true true, bxR X.1 X.2, bxR Y.1 Y.2], []⟩) := by
  simp only [cO, cA, Nat.add_zero]
  rw [lpB_eq]
  simp (maxSteps := 1000000) (disch := first | omega | decide | assumption | simp [scal]) [loadA_eq ia_54, loadA_eq ia_51, za_24, sz_24, lenA_sl lk_55, o_indexAddrS es_55, loadA_eq ia_24, want_some q6_33g3, want_some q6_40g2, want_some q6_54g2, want_some q6_54g6, want_some q6_54g10, want_some q6_54g14, want_some q6_54g19, want_some q6_54g26, want_some q6_54g31, want_some q6_54g38]
theorem l6_3_2 (u a : Nat) (hu : u ≤ 2) (ha : a ≤ 2) : lpB Try.prog LL ⟨6, 139, 0, none⟩ n6_20 n6_21 ⟨[(7, sl 0 0 pl pl), (8, sl 1 0 3 3), (10, pp 2), (11, pp 3), (12, iv u), (13, iv a), (39, sl 1 0 3 3), (40, iv 3), (41, iv 2)], [.cells PC 1 true true, .cells [iv q0.1, iv q0.2, iv q1.1, iv q1.2, iv q2.1, iv q2.2] 2 true true, bxR X.1 X.2, bxR Y.1 Y.2], []⟩ = some (.exit 0, ⟨[(7, sl 0 0 pl pl), (10, pp 1), (11, pp 2), (12, iv (u + cO X Y (some q1) [q2] : Nat)), (13, iv (a + cA X Y [q2] : Nat))], [.cells PC 1 true true, bxR X.1 X.2, bxR Y.1 Y.2], []⟩) := by
  have b1 := fun h => k33X h2 hX h
  have b2 := fun h => k33X h2 hY h
  have b3 := fun h => k33R h2 h1 h
  have f0 := l6_3_3 pl PC X Y hX hY q0 q1 q2 h0 h1 h2 u a (by omega) (by omega)
  have f1 := l6_3_3 pl PC X Y hX hY q0 q1 q2 h0 h1 h2 u (a + 1) (by omega) (by omega)
  have f2 := l6_3_3 pl PC X Y hX hY q0 q1 q2 h0 h1 h2 (u + 1) (a + 1) (by omega) (by omega)
  rw [show cO X Y (some q1) (q2 :: []) = (bif inX X Y q2 && nwR q2 (some q1) then 1 else 0) + cO X Y (some q2) [] from rfl, show cA X Y (q2 :: []) = (bif inX X Y q2 then 1 else 0) + cA X Y [] from rfl]
  generalize cO X Y (some q2) [] = ZO at *
  generalize cA X Y [] = ZA at *
  simp only [inX, nwR]
  clear hX hY h0 h1 h2
  cases hA : leR q2 X <;> rw [hA] at b1
  · cases hB : leR q2 Y <;> rw [hB] at b2
    · simp only [Bool.not_true, Bool.not_false, Bool.true_and, Bool.false_and, Bool.and_true, Bool.and_false, cond_true, cond_false, Nat.zero_add, ← Nat.add_assoc]
      clear f1 f2
      generalize hZ1 : u + ZO = Z1 at f0 ⊢
      generalize hZ2 : a + ZA = Z2 at f0 ⊢
      try simp only [cast1] at f0
      try simp only [Int.natCast_zero] at f0
      rw [lpB_eq]
      simp (maxSteps := 1000000) (disch := first | omega | decide | assumption | simp [scal]) [loadA_eq ia_54, loadA_eq ia_51, za_24, sz_24, lenA_sl lk_55, o_indexAddrS es_55, loadA_eq ia_24, want_some q6_33g3, want_some q6_40g2, want_some q6_54g2, want_some q6_54g6, want_some q6_54g10, want_some q6_54g14, want_some q6_54g19, want_some q6_54g26, want_some q6_54g31, want_some q6_54g38, b1, b2, b3, f0]
    · cases hC : leR q2 q1 <;> rw [hC] at b3
      · simp only [Bool.not_true, Bool.not_false, Bool.true_and, Bool.false_and, Bool.and_true, Bool.and_false, cond_true, cond_false, Nat.zero_add, ← Nat.add_assoc]
        clear f0 f1
        generalize hZ1 : u + 1 + ZO = Z1 at f2 ⊢
        generalize hZ2 : a + 1 + ZA = Z2 at f2 ⊢
        try simp only [cast1] at f2
        try simp only [Int.natCast_zero] at f2
        rw [lpB_eq]
        simp (maxSteps := 1000000) (disch := first | omega | decide | assumption | simp [scal]) [loadA_eq ia_54, loadA_eq ia_51, za_24, sz_24, lenA_sl lk_55, o_indexAddrS es_55, loadA_eq ia_24, want_some q6_33g3, want_some q6_40g2, want_some q6_54g2, want_some q6_54g6, want_some q6_54g10, want_some q6_54g14, want_some q6_54g19, want_some q6_54g26, want_some q6_54g31, want_some q6_54g38, b1, b2, b3, f2]
      · simp only [Bool.not_true, Bool.not_false, Bool.true_and, Bool.false_and, Bool.and_true, Bool.and_false, cond_true, cond_false, Nat.zero_add, ← Nat.add_assoc]
        clear f0 f2
        generalize hZ1 : u + ZO = Z1 at f1 ⊢
        generalize hZ2 : a + 1 + ZA = Z2 at f1 ⊢
        try simp only [cast1] at f1
        try simp only [Int.natCast_zero] at f1
        rw [lpB_eq]
        simp (maxSteps := 1000000) (disch := first | omega | decide | assumption | simp [scal]) [loadA_eq ia_54, loadA_eq ia_51, za_24, sz_24, lenA_sl lk_55, o_indexAddrS es_55, loadA_eq ia_24, want_some q6_33g3, want_some q6_40g2, want_some q6_54g2, want_some q6_54g6, want_some q6_54g10, want_some q6_54g14, want_some q6_54g19, want_some q6_54g26, want_some q6_54g31, want_some q6_54g38, b1, b2, b3, f1]
  · simp only [Bool.not_true, Bool.not_false, Bool.true_and, Bool.false_and, Bool.and_true, Bool.and_false, cond_true, cond_false, Nat.zero_add, ← Nat.add_assoc]
    clear f1 f2
    generalize hZ1 : u + ZO = Z1 at f0 ⊢
    generalize hZ2 : a + ZA = Z2 at f0 ⊢
    try simp only [cast1] at f0
    try simp only [Int.natCast_zero] at f0
    rw [lpB_eq]
    simp (maxSteps := 1000000) (disch := first | omega | decide | assumption | simp [scal]) [loadA_eq ia_54, loadA_eq ia_51, za_24, sz_24, lenA_sl lk_55, o_indexAddrS es_55, loadA_eq ia_24, want_some q6_33g3, want_some q6_40g2, want_some q6_54g2, want_some q6_54g6, want_some q6_54g10, want_some q6_54g14, want_some q6_54g19, want_some q6_54g26, want_some q6_54g31, want_some q6_54g38, b1, b2, b3, f0]
theorem l6_3_1 (u a : Nat) (hu : u ≤ 1) (ha : a ≤ 1) : lpB Try.prog LL ⟨6, 139, 0, none⟩ n6_20 n6_21 ⟨[(7, sl 0 0 pl pl), (8, sl 1 0 3 3), (10, pp 2), (11, pp 3), (12, iv u), (13, iv a), (39, sl 1 0 3 3), (40, iv 3), (41, iv 1)], [.cells PC 1 true true, .cells [iv q0.1, iv q0.2, iv q1.1, iv q1.2, iv q2.1, iv q2.2] 2 true true, bxR X.1 X.2, bxR Y.1 Y.2], []⟩ = some (.exit 0, ⟨[(7, sl 0 0 pl pl), (10, pp 1), (11, pp 2), (12, iv (u + cO X Y (some q0) [q1, q2] : Nat)), (13, iv (a + cA X Y [q1, q2] : Nat))], [.cells PC 1 true true, bxR X.1 X.2, bxR Y.1 Y.2], []⟩) := by
  have b1 := fun h => k33X h1 hX h
  have b2 := fun h => k33X h1 hY h
  have b3 := fun h => k33R h1 h0 h
  have f0 := l6_3_2 pl PC X Y hX hY q0 q1 q2 h0 h1 h2 u a (by omega) (by omega)
  have f1 := l6_3_2 pl PC X Y hX hY q0 q1 q2 h0 h1 h2 u (a + 1) (by omega) (by omega)
  have f2 := l6_3_2 pl PC X Y hX hY q0 q1 q2 h0 h1 h2 (u + 1) (a + 1) (by omega) (by omega)
  rw [show cO X Y (some q0) (q1 :: [q2]) = (bif inX X Y q1 && nwR q1 (some q0) then 1 else 0) + cO X Y (some q1) [q2] from rfl, show cA X Y (q1 :: [q2]) = (bif inX X Y q1 then 1 else 0) + cA X Y [q2] from rfl]
  generalize cO X Y (some q1) [q2] = ZO at *
  generalize cA X Y [q2] = ZA at *
  simp only [inX, nwR]
  clear hX hY h0 h1 h2
  cases hA : leR q1 X <;> rw [hA] at b1
  · cases hB : leR q1 Y <;> rw [hB] at b2
    · simp only [Bool.not_true, Bool.not_false, Bool.true_and, Bool.false_and, Bool.and_true, Bool.and_false, cond_true, cond_false, Nat.zero_add, ← Nat.add_assoc]
      clear f1 f2
      generalize hZ1 : u + ZO = Z1 at f0 ⊢
      generalize hZ2 : a + ZA = Z2 at f0 ⊢
      try simp only [cast1] at f0
      try simp only [Int.natCast_zero] at f0
      rw [lpB_eq]
      simp (maxSteps := 1000000) (disch := first | omega | decide | assumption | simp [scal]) [loadA_eq ia_54, loadA_eq ia_51, za_24, sz_24, lenA_sl lk_55, o_indexAddrS es_55, loadA_eq ia_24, want_some q6_33g3, want_some q6_40g2, want_some q6_54g2, want_some q6_54g6, want_some q6_54g10, want_some q6_54g14, want_some q6_54g19, want_some q6_54g26, want_some q6_54g31, want_some q6_54g38, b1, b2, b3, f0]
    · cases hC : leR q1 q0 <;> rw [hC] at b3
      · simp only [Bool.not_true, Bool.not_false, Bool.true_and, Bool.false_and, Bool.and_true, Bool.and_false, cond_true, cond_false, Nat.zero_add, ← Nat.add_assoc]
        clear f0 f1
        generalize hZ1 : u + 1 + ZO = Z1 at f2 ⊢
        generalize hZ2 : a + 1 + ZA = Z2 at f2 ⊢
        try simp only [cast1] at f2
        try simp only [Int.natCast_zero] at f2
        rw [lpB_eq]
        simp (maxSteps := 1000000) (disch := first | omega | decide | assumption | simp [scal]) [loadA_eq ia_54, loadA_eq ia_51, za_24, sz_24, lenA_sl lk_55, o_indexAddrS es_55, loadA_eq ia_24, want_some q6_33g3, want_some q6_40g2, want_some q6_54g2, want_some q6_54g6, want_some q6_54g10, want_some q6_54g14, want_some q6_54g19, want_some q6_54g26, want_some q6_54g31, want_some q6_54g38, b1, b2, b3, f2]
      · simp only [Bool.not_true, Bool.not_false, Bool.true_and, Bool.false_and, Bool.and_true, Bool.and_false, cond_true, cond_false, Nat.zero_add, ← Nat.add_assoc]
        clear f0 f2
        generalize hZ1 : u + ZO = Z1 at f1 ⊢
        generalize hZ2 : a + 1 + ZA = Z2 at f1 ⊢
        try simp only [cast1] at f1
        try simp only [Int.natCast_zero] at f1
        rw [lpB_eq]
        simp (maxSteps := 1000000) (disch := first | omega | decide | assumption | simp [scal]) [loadA_eq ia_54, loadA_eq ia_51, za_24, sz_24, lenA_sl lk_55, o_indexAddrS es_55, loadA_eq ia_24, want_some q6_33g3, want_some q6_40g2, want_some q6_54g2, want_some q6_54g6, want_some q6_54g10, want_some q6_54g14, want_some q6_54g19, want_some q6_54g26, want_some q6_54g31, want_some q6_54g38, b1, b2, b3, f1]
  · simp only [Bool.not_true, Bool.not_false, Bool.true_and, Bool.false_and, Bool.and_true, Bool.and_false, cond_true, cond_false, Nat.zero_add, ← Nat.add_assoc]
    clear f1 f2
    generalize hZ1 : u + ZO = Z1 at f0 ⊢
    generalize hZ2 : a + ZA = Z2 at f0 ⊢
    try simp only [cast1] at f0
    try simp only [Int.natCast_zero] at f0
    rw [lpB_eq]
    simp (maxSteps := 1000000) (disch := first | omega | decide | assumption | simp [scal]) [loadA_eq ia_54, loadA_eq ia_51, za_24, sz_24, lenA_sl lk_55, o_indexAddrS es_55, loadA_eq ia_24, want_some q6_33g3, want_some q6_40g2, want_some q6_54g2, want_some q6_54g6, want_some q6_54g10, want_some q6_54g14, want_some q6_54g19, want_some q6_54g26, want_some q6_54g31, want_some q6_54g38, b1, b2, b3, f0]
theorem l6_3_0 (u a : Nat) (hu : u ≤ 0) (ha : a ≤ 0) : lpB Try.prog LL ⟨6, 139, 0, none⟩ n6_20 n6_21 ⟨[(7, sl 0 0 pl pl), (8, sl 1 0 3 3), (10, pp 2), (11, pp 3), (12, iv u), (13, iv a), (39, sl 1 0 3 3), (40, iv 3), (41, iv 0)], [.cells PC 1 true true, .cells [iv q0.1, iv q0.2, iv q1.1, iv q1.2, iv q2.1, iv q2.2] 2 true true, bxR X.1 X.2, bxR Y.1 Y.2], []⟩ = some (.exit 0, ⟨[(7, sl 0 0 pl pl), (10, pp 1), (11, pp 2), (12, iv (u + cO X Y none [q0, q1, q2] : Nat)), (13, iv (a + cA X Y [q0, q1, q2] : Nat))], [.cells PC 1 true true, bxR X.1 X.2, bxR Y.1 Y.2], []⟩) := by
  have b1 := fun h => k33X h0 hX h
  have b2 := fun h => k33X h0 hY h
  have f0 := l6_3_1 pl PC X Y hX hY q0 q1 q2 h0 h1 h2 u a (by omega) (by omega)
  have f1 := l6_3_1 pl PC X Y hX hY q0 q1 q2 h0 h1 h2 u (a + 1) (by omega) (by omega)
  have f2 := l6_3_1 pl PC X Y hX hY q0 q1 q2 h0 h1 h2 (u + 1) (a + 1) (by omega) (by omega)
  rw [show cO X Y none (q0 :: [q1, q2]) = (bif inX X Y q0 && nwR q0 none then 1 else 0) + cO X Y (some q0) [q1, q2] from rfl, show cA X Y (q0 :: [q1, q2]) = (bif inX X Y q0 then 1 else 0) + cA X Y [q1, q2] from rfl]
  generalize cO X Y (some q0) [q1, q2] = ZO at *
  generalize cA X Y [q1, q2] = ZA at *
  simp only [inX, nwR]
  clear hX hY h0 h1 h2
  cases hA : leR q0 X <;> rw [hA] at b1
  · cases hB : leR q0 Y <;> rw [hB] at b2
    · simp only [Bool.not_true, Bool.not_false, Bool.true_and, Bool.false_and, Bool.and_true, Bool.and_false, cond_true, cond_false, Nat.zero_add, ← Nat.add_assoc]
      clear f1 f2
      generalize hZ1 : u + ZO = Z1 at f0 ⊢
      generalize hZ2 : a + ZA = Z2 at f0 ⊢
      try simp only [cast1] at f0
      try simp only [Int.natCast_zero] at f0
      rw [lpB_eq]
      simp (maxSteps := 1000000) (disch := first | omega | decide | assumption | simp [scal]) [loadA_eq ia_54, loadA_eq ia_51, za_24, sz_24, lenA_sl lk_55, o_indexAddrS es_55, loadA_eq ia_24, want_some q6_33g3, want_some q6_40g2, want_some q6_54g2, want_some q6_54g6, want_some q6_54g10, want_some q6_54g14, want_some q6_54g19, want_some q6_54g26, want_some q6_54g31, want_some q6_54g38, b1, b2, f0]
    · simp only [Bool.not_true, Bool.not_false, Bool.true_and, Bool.false_and, Bool.and_true, Bool.and_false, cond_true, cond_false, Nat.zero_add, ← Nat.add_assoc]
      clear f0 f1
      generalize hZ1 : u + 1 + ZO = Z1 at f2 ⊢
      generalize hZ2 : a + 1 + ZA = Z2 at f2 ⊢
      try simp only [cast1] at f2
      try simp only [Int.natCast_zero] at f2
      rw [lpB_eq]
      simp (maxSteps := 1000000) (disch := first | omega | decide | assumption | simp [scal]) [loadA_eq ia_54, loadA_eq ia_51, za_24, sz_24, lenA_sl lk_55, o_indexAddrS es_55, loadA_eq ia_24, want_some q6_33g3, want_some q6_40g2, want_some q6_54g2, want_some q6_54g6, want_some q6_54g10, want_some q6_54g14, want_some q6_54g19, want_some q6_54g26, want_some q6_54g31, want_some q6_54g38, b1, b2, f2]
  · simp only [Bool.not_true, Bool.not_false, Bool.true_and, Bool.false_and, Bool.and_true, Bool.and_false, cond_true, cond_false, Nat.zero_add, ← Nat.add_assoc]
    clear f1 f2
    generalize hZ1 : u + ZO = Z1 at f0 ⊢
    generalize hZ2 : a + ZA = Z2 at f0 ⊢
    try simp only [cast1] at f0
    try simp only [Int.natCast_zero] at f0
    rw [lpB_eq]
    simp (maxSteps := 1000000) (disch := first | omega | decide | assumption | simp [scal]) [loadA_eq ia_54, loadA_eq ia_51, za_24, sz_24, lenA_sl lk_55, o_indexAddrS es_55, loadA_eq ia_24, want_some q6_33g3, want_some q6_40g2, want_some q6_54g2, want_some q6_54g6, want_some q6_54g10, want_some q6_54g14, want_some q6_54g19, want_some q6_54g26, want_some q6_54g31, want_some q6_54g38, b1, b2, f0]
end
end Go.Proofs.Ytkmompbfcgjgmaa.nt
namespace Go.Proofs.Ytkmompbfcgjgmaa.nt
open Go.GE
set_option linter.unusedVariables false
set_option linter.unusedSimpArgs false
set_option linter.unusedSectionVars false
set_option maxRecDepth 100000
set_option maxHeartbeats 4000000
attribute [local simp] runOps_nil runOps_cons runOpsF_nil runOpsF_cons fstS_some fstF_some opStep_eq want_none oStep_true oStep_false fin_pure fin_read fin_alloc fin_write storeB wrN cellV addWr o_move o_assign o_pick o_alloc o_box o_load o_store o_nilCheck o_bin o_un o_extract o_callV o_callB o_callI callV_f callV_y callV_fc o_makeFunc partsA Instr.fill builtin_len builtin_max2 bin_add bin_sub bin_mul bin_quo bin_rem bin_lss bin_leq bin_gtr bin_geq bin_eql bin_neq un_neg un_not bin_shr bin_shl wrap_u64_id opd opds optAll putO nbeq nblt constOk isC ops sub cl cr co bodyOf thenS_normal thenS_ret thenS_exit thenS_goto afterN_normal afterN_ret afterN_exit afterN_goto condS_true condS_false blockS_normal blockS_ret blockS_exit blockS_goto headS normS normK_eq fixS_nil fixS_cons fix1 fixV emptyB keepO_nil keepO_cons roundC_normal roundC_exit roundC_ret roundC_goto sweep_eq sweepD rnm pickR pickW rootsB ptrT renT ptrFn renFn ptrB_flat ptrB_non renB_flat renB_non plainS_some drawS_some fpsOk disj unord range' dropTo enumT undef wrap_i64_id Value.cells mkCells ptrTo scal cellsAt rdN endS_ret resultsA Option.bind_some tupV finish reachN dep ptrL_eq ptrL renL_eq renL ptrV_bool ptrV_int ptrV_string ptrV_nilFunc ptrV_nilIface ptrV_nilPtr ptrV_ptr ptrV_nilSl ptrV_sl ptrV_iface ptrV_agg ptrV_tuple ptrV_func renV_bool renV_int renV_string renV_nilFunc renV_nilIface renV_nilPtr renV_ptr renV_nilSl renV_sl renV_iface renV_agg renV_tuple renV_func gotoS_goto gotoS_normal gotoS_exit gotoS_ret skip_seq sliceE bnd bndHi intOf optOpd keepT_nil keepT_cons keepC_t keepC_f lk_nil lk_cons lkC_t lkC_f has_nil has_cons hasC_t hasC_f rep_nil rep_cons repC_t repC_f put_eq putC_t putC_f mem_nil mem_cons memC_t memC_f idx_nil idx_cons idxC_t idxC_f reach_nil reachP_cons reachQ_t reachQ_f ptrB_dead renB_dead ins_eq
attribute [local simp] n6_1s n6_3s n6_6s n6_9s n6_10s n6_8s n6_11s n6_7s n6_5s n6_13s n6_15s n6_18s n6_22s n6_25s n6_26s n6_24s n6_30s n6_33s n6_35s n6_36s n6_34s n6_32s n6_38s n6_40s n6_42s n6_43s n6_41s n6_39s n6_37s n6_31s n6_29s n6_28s n6_44s n6_27s n6_23s n6_21s n6_20s n6_20g n6_19s n6_17s n6_46s n6_48s n6_50s n6_52s n6_54s n6_55s n6_53s n6_51s n6_49s n6_47s n6_45s n6_16s n6_14s n6_12s n6_4s n6_2s n6_0s Try.f6
theorem insR_mem {r x : Int × Int} : ∀ {l : List (Int × Int)}, x ∈ insR l r → x = r ∨ x ∈ l := by
  intro l
  induction l with
  | nil => intro h; simp [insR] at h; exact .inl h
  | cons a l ih =>
    intro h
    unfold insR at h
    split at h
    · rcases List.mem_cons.1 h with rfl | h
      · exact .inr (by simp)
      · rcases ih h with h | h
        · exact .inl h
        · exact .inr (by simp [h])
    · rcases List.mem_cons.1 h with rfl | h
      · exact .inl rfl
      · exact .inr h
theorem fldR_ok : ∀ (l R : List (Int × Int)), (∀ x, x ∈ l → okRt x) → (∀ x, x ∈ R → okRt x) → ∀ x, x ∈ fldR l R → okRt x := by
  intro l
  induction l with
  | nil => intro R _ h x hx; exact h x hx
  | cons r l ih =>
    intro R h1 h2 x hx
    exact ih (insR R r) (fun y hy => h1 y (by simp [hy])) (fun y hy => by
      rcases insR_mem hy with rfl | hy
      · exact h1 y (by simp)
      · exact h2 y hy) x hx
theorem shQ_ok {r0 s0 r1 s1 r2 s2 : Int} {n : Nat} {o : Bool} : ∀ x, x ∈ shQ r0 s0 r1 s1 r2 s2 n o → okRt x := by
  refine fldR_ok _ _ (fun x hx => ?_) (fun x hx => by cases hx)
  have := List.mem_of_mem_take hx
  simp only [List.mem_cons, List.not_mem_nil, or_false] at this
  rcases this with rfl | rfl | rfl <;> exact shR_ok _ _
/-- what the law says of a polynomial, its roots and two fractions -/
structure LawS (P : List Int) (R : List (Int × Int)) (X Y : Int × Int) : Prop where
  le : chkE P = 0
  ls : stuB P = true
  lsx : evA (stu P) X.1 X.2 = true
  lsy : evA (stu P) Y.1 Y.2 = true
  lf : fouB P = true
  lfx : evA (fou P) X.1 X.2 = true
  lfy : evA (fou P) Y.1 Y.2 = true
  ln : (vAt (stu P) X.1 X.2 : Int) - vAt (stu P) Y.1 Y.2 = (cO X Y none R : Nat)
  lm : ((cA X Y R : Nat) : Int) ≤ (vAt (fou P) X.1 X.2 : Int) - vAt (fou P) Y.1 Y.2
  lz : (((vAt (fou P) X.1 X.2 : Int) - vAt (fou P) Y.1 Y.2) - (cA X Y R : Nat)).tmod 2 = 0
theorem vAt_le {S : List (List Int)} {x y : Int} (h : S.length ≤ 4) : vAt S x y ≤ 4 := by
  have := chN_le (S.map fun q => sgP q x y) 0 0
  rw [List.length_map] at this
  unfold vAt; omega
theorem stu_len {p : List Int} (hB : stuB p = true) : (stu p).length ≤ 4 := by
  rcases stu_cases hB with ⟨q1, q2, hq⟩ | ⟨q1, q2, q3, hq⟩ | ⟨q1, q2, q3, q4, hq⟩ <;> rw [hq] <;> simp
theorem fou_len {p : List Int} : (fou p).length ≤ 4 := by
  unfold fou
  cases Nat.beq p.length 2 <;> cases Nat.beq p.length 3 <;> simp
theorem okX_good {X : Int × Int} (h : okX X) : goodR X.1 X.2 = true := by
  unfold okX at h
  unfold goodR
  simp only [Bool.and_eq_true, decide_eq_true_eq]
  omega
section
variable (r0 s0 r1 s1 r2 s2 : Int) (n : Nat) (o : Bool) (g : Int) (h8 : I8 r0 ∧ I8 s0 ∧ I8 r1 ∧ I8 s1 ∧ I8 r2 ∧ I8 s2 ∧ I8 g) (hn : n < 256) (a b u v : Int) (h4 : I8 a ∧ I8 b ∧ I8 u ∧ I8 v)
include h8 hn h4
theorem c6 (hL : okP (shP r0 s0 r1 s1 r2 s2 n o g) = true → LawS (shP r0 s0 r1 s1 r2 s2 n o g) (shQ r0 s0 r1 s1 r2 s2 n o) (tie a b u v).1 (tie a b u v).2) :
    LL.run 6 [shV r0 s0 r1 s1 r2 s2 n o g, .agg #[bv a, bv b], .agg #[bv u, bv v]] [] = some ⟨.bool true, [], []⟩ := by
  have a31 := fun h => (k31 r0 s0 r1 s1 r2 s2 n g h8 hn o h).1
  obtain ⟨_, p2, p4, q3⟩ := k31 r0 s0 r1 s1 r2 s2 n g h8 hn o []
  have hq := shQ_ok (r0 := r0) (s0 := s0) (r1 := r1) (s1 := s1) (r2 := r2) (s2 := s2) (n := n) (o := o)
  have a32 := fun h => k32 a b u v h4.1 h4.2.1 h4.2.2.1 h4.2.2.2 h
  obtain ⟨oX, oY, oXY⟩ := tie_ok a b u v
  simp only [agR] at a32
  generalize shP r0 s0 r1 s1 r2 s2 n o g = P at *
  generalize shQ r0 s0 r1 s1 r2 s2 n o = R at *
  generalize (tie a b u v).1 = X at *
  generalize (tie a b u v).2 = Y at *
  refine go (by decide) ?_
  cases hok : okP P
  · rw [hok] at a31
    clear hL hq oXY
    obtain ⟨pl, hpl⟩ : ∃ pl, P.length = pl := ⟨_, rfl⟩
    obtain ⟨ql, hql⟩ : ∃ ql, R.length = ql := ⟨_, rfl⟩
    rw [hpl, hql] at a31
    simp only [zB, rtB] at a31
    generalize zm P = L1 at *
    generalize rtC R = L2 at *
    rw [run6 _ _ _ (by simp)]
    simp (maxSteps := 1000000) (disch := first | omega | decide | assumption | simp [scal]) [loadA_eq ia_54, loadA_eq ia_51, za_24, sz_24, lenA_sl lk_55, o_indexAddrS es_55, loadA_eq ia_24, want_some q6_33g3, want_some q6_40g2, want_some q6_54g2, want_some q6_54g6, want_some q6_54g10, want_some q6_54g14, want_some q6_54g19, want_some q6_54g26, want_some q6_54g31, want_some q6_54g38, a31, k12]
  · rw [hok] at a31
    have H := hL hok
    have gX := okX_good oX
    have gY := okX_good oY
    have bE : betE P X.1 X.2 Y.1 Y.2 = 0 := by
      unfold betE
      rw [if_neg (by simp [H.le]), gX, gY, if_pos (by decide), if_neg (by omega)]
    have cX : chgE P X.1 X.2 = 0 := by unfold chgE; rw [if_neg (by simp [H.le]), if_pos gX]
    have cY : chgE P Y.1 Y.2 = 0 := by unfold chgE; rw [if_neg (by simp [H.le]), if_pos gY]
    have a25 := fun Z1 Z2 => k25 0 P.length (p := P) (h := [zB P, Z1, Z2]) rfl PoC_zm (by omega) X.1 X.2 Y.1 Y.2 (fun _ => ⟨H.ls, H.lsx, H.lsy⟩)
    have a27 := fun Z1 Z2 => k27 0 P.length (p := P) (h := [zB P, Z1, Z2]) rfl PoC_zm (by omega) X.1 X.2 Y.1 Y.2 (fun _ => ⟨H.lf, H.lfx, H.lfy⟩)
    have a23x := fun Z1 Z2 => k23 0 P.length (p := P) (h := [zB P, Z1, Z2]) rfl PoC_zm (by omega) X.1 X.2 (fun _ => ⟨H.ls, H.lsx⟩)
    have a23y := fun Z1 Z2 => k23 0 P.length (p := P) (h := [zB P, Z1, Z2]) rfl PoC_zm (by omega) Y.1 Y.2 (fun _ => ⟨H.ls, H.lsy⟩)
    unfold cntV at a25
    unfold fouV at a27
    unfold chgV at a23x a23y
    rw [bE, if_pos rfl] at a25 a27
    rw [cX, if_pos rfl] at a23x
    rw [cY, if_pos rfl] at a23y
    have v1 := vAt_le (x := X.1) (y := X.2) (stu_len H.ls)
    have v2 := vAt_le (x := Y.1) (y := Y.2) (stu_len H.ls)
    have v3 := vAt_le (S := fou P) (x := X.1) (y := X.2) fou_len
    have v4 := vAt_le (S := fou P) (x := Y.1) (y := Y.2) fou_len
    have hn := H.ln
    have hm := H.lm
    have hz := H.lz
    generalize vAt (stu P) X.1 X.2 = V1 at *
    generalize vAt (stu P) Y.1 Y.2 = V2 at *
    generalize vAt (fou P) X.1 X.2 = V3 at *
    generalize vAt (fou P) Y.1 Y.2 = V4 at *
    clear hL H gX gY bE cX cY oXY
    obtain ⟨pl, hpl⟩ : ∃ pl, P.length = pl := ⟨_, rfl⟩
    rw [hpl] at a31 a25 a27 a23x a23y
    simp only [zB] at a31 a25 a27 a23x a23y
    generalize zm P = L1 at *
    rcases R with _ | ⟨q0, _ | ⟨q1, _ | ⟨q2, _ | ⟨q3, R⟩⟩⟩⟩
    · have lp := l6_0_0 pl L1 X Y oX oY   0 0 (by omega) (by omega)
      simp only [Nat.zero_add, Int.natCast_zero] at lp
      simp only [rtB, rtC, List.flatMap_cons, List.flatMap_nil, List.cons_append, List.nil_append, List.append_nil, List.length_cons, List.length_nil, Nat.reduceAdd, Nat.zero_add] at a31
      clear hq oX oY q3
      have ca : cA X Y [] ≤ 4 := by have := hm; omega
      have co : cO X Y none [] ≤ 4 := by have := hn; omega
      generalize cO X Y none [] = N1 at *
      generalize cA X Y [] = N2 at *
      generalize X.1 = x at *
      generalize X.2 = y at *
      generalize Y.1 = x' at *
      generalize Y.2 = y' at *
      rw [run6 _ _ _ (by simp)]
      simp (maxSteps := 1000000) (disch := first | omega | decide | assumption | simp [scal]) [loadA_eq ia_54, loadA_eq ia_51, za_24, sz_24, lenA_sl lk_55, o_indexAddrS es_55, loadA_eq ia_24, want_some q6_33g3, want_some q6_40g2, want_some q6_54g2, want_some q6_54g6, want_some q6_54g10, want_some q6_54g14, want_some q6_54g19, want_some q6_54g26, want_some q6_54g31, want_some q6_54g38, a31, a32, lp, a25, a27, a23x, a23y, hn, hm, hz, k12]
    · have lp := l6_1_0 pl L1 X Y oX oY q0 (hq q0 (by simp)) 0 0 (by omega) (by omega)
      simp only [Nat.zero_add, Int.natCast_zero] at lp
      simp only [rtB, rtC, List.flatMap_cons, List.flatMap_nil, List.cons_append, List.nil_append, List.append_nil, List.length_cons, List.length_nil, Nat.reduceAdd, Nat.zero_add] at a31
      clear hq oX oY q3
      have ca : cA X Y [q0] ≤ 4 := by have := hm; omega
      have co : cO X Y none [q0] ≤ 4 := by have := hn; omega
      generalize cO X Y none [q0] = N1 at *
      generalize cA X Y [q0] = N2 at *
      generalize X.1 = x at *
      generalize X.2 = y at *
      generalize Y.1 = x' at *
      generalize Y.2 = y' at *
      rw [run6 _ _ _ (by simp)]
      simp (maxSteps := 1000000) (disch := first | omega | decide | assumption | simp [scal]) [loadA_eq ia_54, loadA_eq ia_51, za_24, sz_24, lenA_sl lk_55, o_indexAddrS es_55, loadA_eq ia_24, want_some q6_33g3, want_some q6_40g2, want_some q6_54g2, want_some q6_54g6, want_some q6_54g10, want_some q6_54g14, want_some q6_54g19, want_some q6_54g26, want_some q6_54g31, want_some q6_54g38, a31, a32, lp, a25, a27, a23x, a23y, hn, hm, hz, k12]
    · have lp := l6_2_0 pl L1 X Y oX oY q0 q1 (hq q0 (by simp)) (hq q1 (by simp)) 0 0 (by omega) (by omega)
      simp only [Nat.zero_add, Int.natCast_zero] at lp
      simp only [rtB, rtC, List.flatMap_cons, List.flatMap_nil, List.cons_append, List.nil_append, List.append_nil, List.length_cons, List.length_nil, Nat.reduceAdd, Nat.zero_add] at a31
      clear hq oX oY q3
      have ca : cA X Y [q0, q1] ≤ 4 := by have := hm; omega
      have co : cO X Y none [q0, q1] ≤ 4 := by have := hn; omega
      generalize cO X Y none [q0, q1] = N1 at *
      generalize cA X Y [q0, q1] = N2 at *
      generalize X.1 = x at *
      generalize X.2 = y at *
      generalize Y.1 = x' at *
      generalize Y.2 = y' at *
      rw [run6 _ _ _ (by simp)]
      simp (maxSteps := 1000000) (disch := first | omega | decide | assumption | simp [scal]) [loadA_eq ia_54, loadA_eq ia_51, za_24, sz_24, lenA_sl lk_55, o_indexAddrS es_55, loadA_eq ia_24, want_some q6_33g3, want_some q6_40g2, want_some q6_54g2, want_some q6_54g6, want_some q6_54g10, want_some q6_54g14, want_some q6_54g19, want_some q6_54g26, want_some q6_54g31, want_some q6_54g38, a31, a32, lp, a25, a27, a23x, a23y, hn, hm, hz, k12]
    · have lp := l6_3_0 pl L1 X Y oX oY q0 q1 q2 (hq q0 (by simp)) (hq q1 (by simp)) (hq q2 (by simp)) 0 0 (by omega) (by omega)
      simp only [Nat.zero_add, Int.natCast_zero] at lp
      simp only [rtB, rtC, List.flatMap_cons, List.flatMap_nil, List.cons_append, List.nil_append, List.append_nil, List.length_cons, List.length_nil, Nat.reduceAdd, Nat.zero_add] at a31
      clear hq oX oY q3
      have ca : cA X Y [q0, q1, q2] ≤ 4 := by have := hm; omega
      have co : cO X Y none [q0, q1, q2] ≤ 4 := by have := hn; omega
      generalize cO X Y none [q0, q1, q2] = N1 at *
      generalize cA X Y [q0, q1, q2] = N2 at *
      generalize X.1 = x at *
      generalize X.2 = y at *
      generalize Y.1 = x' at *
      generalize Y.2 = y' at *
      rw [run6 _ _ _ (by simp)]
      simp (maxSteps := 1000000) (disch := first | omega | decide | assumption | simp [scal]) [loadA_eq ia_54, loadA_eq ia_51, za_24, sz_24, lenA_sl lk_55, o_indexAddrS es_55, loadA_eq ia_24, want_some q6_33g3, want_some q6_40g2, want_some q6_54g2, want_some q6_54g6, want_some q6_54g10, want_some q6_54g14, want_some q6_54g19, want_some q6_54g26, want_some q6_54g31, want_some q6_54g38, a31, a32, lp, a25, a27, a23x, a23y, hn, hm, hz, k12]
    · simp at q3
end
end Go.Proofs.Ytkmompbfcgjgmaa.nt
namespace Go.Proofs.Ytkmompbfcgjgmaa.nt
open Go.GE
set_option linter.unusedVariables false
set_option linter.unusedSimpArgs false
set_option linter.unusedSectionVars false
set_option maxRecDepth 100000
set_option maxHeartbeats 4000000
/-- the sign of a value, as 0, 1 or 2; the argument is (xp - xn) / 4, values are differences -/
def evN (xp xn : Nat) : List (Nat × Nat) → Nat → Nat → Nat → Nat
  | [], sp, sn, _ => bif Nat.blt sn sp then 1 else bif Nat.blt sp sn then 2 else 0
  | c :: r, sp, sn, w => evN xp xn r (Nat.add (Nat.add (Nat.mul sp xp) (Nat.mul sn xn)) (Nat.mul c.1 w)) (Nat.add (Nat.add (Nat.mul sp xn) (Nat.mul sn xp)) (Nat.mul c.2 w)) (Nat.mul w 4)
def chM (xp xn : Nat) : List (List (Nat × Nat)) → Nat → Nat → Nat
  | [], _, n => n
  | q :: S, l, n => (fun s => bif Nat.beq s 0 then chM xp xn S l n else chM xp xn S s (bif Nat.beq l 0 then n else bif Nat.beq s l then n else Nat.succ n)) (evN xp xn q 0 0 1)
def toQ (q : List Int) : List (Nat × Nat) := q.reverse.map fun c => (c.toNat, (-c).toNat)
def toN (S : List (List Int)) : List (List (Nat × Nat)) := S.map toQ
def dN (j : Nat) : Nat → List Nat → Nat
  | _, [] => 0
  | pv, h :: l => bif Nat.ble h j then (bif Nat.ble h pv then dN j h l else Nat.succ (dN j h l)) else dN j h l
def aN (j : Nat) : List Nat → Nat
  | [] => 0
  | h :: l => bif Nat.ble h j then Nat.succ (aN j l) else aN j l
abbrev GP := Nat × Nat × Nat
def vN (S : List (List (Nat × Nat))) (H : List Nat) (e : GP) : Nat := Nat.add (chM e.1 e.2.1 S 0 0) (dN e.2.2 0 H)
def scN (S F : List (List (Nat × Nat))) (H : List Nat) : List GP → Nat → Nat → Bool
  | [], _, _ => true
  | e :: l, v, g => Nat.beq (vN S H e) v && (fun g2 => Nat.ble g2 g && Nat.beq (Nat.mod (Nat.sub g g2) 2) 0 && scN S F H l v g2) (Nat.add (chM e.1 e.2.1 F 0 0) (aN e.2.2 H))
theorem scN_spec {S F : List (List (Nat × Nat))} {H : List Nat} : ∀ (l : List GP) (v g : Nat), scN S F H l v g = true →
    (∀ e, e ∈ l → vN S H e = v ∧ chM e.1 e.2.1 F 0 0 + aN e.2.2 H ≤ g ∧ (g - (chM e.1 e.2.1 F 0 0 + aN e.2.2 H)) % 2 = 0) ∧
    l.Pairwise (fun e e' => chM e'.1 e'.2.1 F 0 0 + aN e'.2.2 H ≤ chM e.1 e.2.1 F 0 0 + aN e.2.2 H ∧ (chM e.1 e.2.1 F 0 0 + aN e.2.2 H - (chM e'.1 e'.2.1 F 0 0 + aN e'.2.2 H)) % 2 = 0) := by
  intro l
  induction l with
  | nil => intro v g _; exact ⟨fun e he => absurd he (by simp), List.Pairwise.nil⟩
  | cons e l ih =>
    intro v g h
    have h : (Nat.beq (vN S H e) v && (Nat.ble (Nat.add (chM e.1 e.2.1 F 0 0) (aN e.2.2 H)) g && Nat.beq (Nat.mod (Nat.sub g (Nat.add (chM e.1 e.2.1 F 0 0) (aN e.2.2 H))) 2) 0 && scN S F H l v (Nat.add (chM e.1 e.2.1 F 0 0) (aN e.2.2 H)))) = true := h
    rw [Bool.and_eq_true, Bool.and_eq_true, Bool.and_eq_true] at h
    obtain ⟨h1, ⟨h2, h3⟩, h4⟩ := h
    have h1 : vN S H e = v := Nat.eq_of_beq_eq_true h1
    have h2 := Nat.le_of_ble_eq_true h2
    have h3 := Nat.eq_of_beq_eq_true h3
    obtain ⟨i1, i2⟩ := ih v _ h4
    have e0 : Nat.add (chM e.1 e.2.1 F 0 0) (aN e.2.2 H) = chM e.1 e.2.1 F 0 0 + aN e.2.2 H := rfl
    rw [e0] at h2 h3 i1
    have h3 : (g - (chM e.1 e.2.1 F 0 0 + aN e.2.2 H)) % 2 = 0 := h3
    refine ⟨fun x hx => ?_, List.pairwise_cons.2 ⟨fun x hx => ?_, i2⟩⟩
    · rcases List.mem_cons.1 hx with rfl | hx
      · exact ⟨h1, h2, h3⟩
      · obtain ⟨j1, j2, j3⟩ := i1 x hx
        exact ⟨j1, by omega, by omega⟩
    · exact ⟨(i1 x hx).2.1, (i1 x hx).2.2⟩
/-- a sign, from its number -/
def dc (s : Nat) : Int := if s = 1 then 1 else if s = 2 then -1 else 0
theorem evN_sg {xp xn : Nat} : ∀ (r : List Int) (sp sn w : Nat), evN xp xn (r.map fun c => (c.toNat, (-c).toNat)) sp sn w ≤ 2 ∧ dc (evN xp xn (r.map fun c => (c.toNat, (-c).toNat)) sp sn w) = sg (evS ((xp : Int) - xn) 4 r ((sp : Int) - sn) w) := by
  intro r
  induction r with
  | nil =>
    intro sp sn w
    simp only [List.map_nil, evN, evS]
    unfold sg
    by_cases h1 : sn < sp
    · have e1 : Nat.blt sn sp = true := by rw [nblt]; simp [h1]
      rw [e1, cond_true, if_pos (by omega)]
      exact ⟨by decide, rfl⟩
    · have e1 : Nat.blt sn sp = false := by rw [nblt]; simp; omega
      rw [e1, cond_false, if_neg (by omega)]
      by_cases h2 : sp < sn
      · have e2 : Nat.blt sp sn = true := by rw [nblt]; simp [h2]
        rw [e2, cond_true, if_pos (by omega)]
        exact ⟨by decide, rfl⟩
      · have e2 : Nat.blt sp sn = false := by rw [nblt]; simp; omega
        rw [e2, cond_false, if_neg (by omega)]
        exact ⟨by decide, rfl⟩
  | cons c r ih =>
    intro sp sn w
    simp only [List.map_cons, evN, evS]
    have hc : c = ((c.toNat : Nat) : Int) - ((-c).toNat : Nat) := by omega
    obtain ⟨i1, i2⟩ := ih (Nat.add (Nat.add (Nat.mul sp xp) (Nat.mul sn xn)) (Nat.mul c.toNat w)) (Nat.add (Nat.add (Nat.mul sp xn) (Nat.mul sn xp)) (Nat.mul (-c).toNat w)) (Nat.mul w 4)
    refine ⟨i1, ?_⟩
    rw [i2]
    have e1 : ((Nat.add (Nat.add (Nat.mul sp xp) (Nat.mul sn xn)) (Nat.mul c.toNat w) : Nat) : Int) - ((Nat.add (Nat.add (Nat.mul sp xn) (Nat.mul sn xp)) (Nat.mul (-c).toNat w) : Nat) : Int) = ((sp : Int) - sn) * ((xp : Int) - xn) + c * w := by
      have e : ((Nat.add (Nat.add (Nat.mul sp xp) (Nat.mul sn xn)) (Nat.mul c.toNat w) : Nat) : Int) = (sp : Int) * xp + (sn : Int) * xn + (c.toNat : Int) * w := by
        show ((sp * xp + sn * xn + c.toNat * w : Nat) : Int) = _
        rw [Int.natCast_add, Int.natCast_add, Int.natCast_mul, Int.natCast_mul, Int.natCast_mul]
      have e' : ((Nat.add (Nat.add (Nat.mul sp xn) (Nat.mul sn xp)) (Nat.mul (-c).toNat w) : Nat) : Int) = (sp : Int) * xn + (sn : Int) * xp + ((-c).toNat : Int) * w := by
        show ((sp * xn + sn * xp + (-c).toNat * w : Nat) : Int) = _
        rw [Int.natCast_add, Int.natCast_add, Int.natCast_mul, Int.natCast_mul, Int.natCast_mul]
      rw [e, e']
      generalize c.toNat = cp at *
      generalize (-c).toNat = cn at *
      subst hc
      grind
    have e2 : ((Nat.mul w 4 : Nat) : Int) = (w : Int) * 4 := by show ((w * 4 : Nat) : Int) = _; rw [Int.natCast_mul]; rfl
    rw [e1, e2]
theorem dc_inj {a b : Nat} (ha : a ≤ 2) (hb : b ≤ 2) : dc a = dc b ↔ a = b := by
  rcases (by omega : a = 0 ∨ a = 1 ∨ a = 2) with rfl | rfl | rfl <;> rcases (by omega : b = 0 ∨ b = 1 ∨ b = 2) with rfl | rfl | rfl <;> simp [dc]
theorem chM_eq {xp xn : Nat} : ∀ (S : List (List Int)) (l n : Nat), l ≤ 2 → chM xp xn (toN S) l n = chN (S.map fun q => sgP q ((xp : Int) - xn) 4) (dc l) n := by
  intro S
  induction S with
  | nil => intro l n _; rfl
  | cons q S ih =>
    intro l n hl
    obtain ⟨h1, h2⟩ := evN_sg (xp := xp) (xn := xn) q.reverse 0 0 1
    have h2' : dc (evN xp xn (toQ q) 0 0 1) = sgP q ((xp : Int) - xn) 4 := by
      unfold toQ sgP
      rw [h2]
      rfl
    show (fun s => bif Nat.beq s 0 then chM xp xn (toN S) l n else chM xp xn (toN S) s (bif Nat.beq l 0 then n else bif Nat.beq s l then n else Nat.succ n)) (evN xp xn (toQ q) 0 0 1) = _
    simp only [List.map_cons, chN]
    rw [← h2']
    have h1 : evN xp xn (toQ q) 0 0 1 ≤ 2 := h1
    generalize evN xp xn (toQ q) 0 0 1 = s at *
    have z0 : dc s = 0 ↔ s = 0 := by have := dc_inj h1 (show 0 ≤ 2 by decide); exact this
    have z1 : dc l = 0 ↔ l = 0 := by have := dc_inj hl (show 0 ≤ 2 by decide); exact this
    have z2 := dc_inj h1 hl
    by_cases c1 : s = 0
    · rw [if_pos (z0.2 c1), nbeq, decide_eq_true c1, cond_true]
      exact ih l n hl
    · rw [if_neg (fun h => c1 (z0.1 h)), nbeq, decide_eq_false c1, cond_false, ih _ _ h1]
      congr 1
      by_cases c2 : l = 0
      · rw [nbeq, decide_eq_true c2, cond_true, if_neg (fun h => h.1 (z1.2 c2))]
      · rw [nbeq, decide_eq_false c2, cond_false]
        by_cases c3 : s = l
        · rw [nbeq, decide_eq_true c3, cond_true, if_neg (fun h => h.2 (z2.2 c3))]
        · rw [nbeq, decide_eq_false c3, cond_false, if_pos ⟨fun h => c2 (z1.1 h), fun h => c3 (z2.1 h)⟩]
theorem chM_vAt {xp xn : Nat} {S : List (List Int)} : chM xp xn (toN S) 0 0 = vAt S ((xp : Int) - xn) 4 := chM_eq S 0 0 (by decide)
end Go.Proofs.Ytkmompbfcgjgmaa.nt
namespace Go.Proofs.Ytkmompbfcgjgmaa.nt
open Go.GE
set_option linter.unusedVariables false
set_option linter.unusedSimpArgs false
set_option linter.unusedSectionVars false
set_option maxRecDepth 100000
set_option maxHeartbeats 4000000
def gridL : List GP := [(0, 64, 0), (0, 62, 2), (0, 60, 4), (0, 58, 6), (0, 56, 8), (0, 54, 10), (0, 52, 12), (0, 50, 14), (0, 48, 16), (0, 46, 18), (0, 44, 20), (0, 42, 22), (0, 40, 24), (0, 38, 26), (0, 36, 28), (0, 34, 30), (0, 32, 32), (0, 31, 33), (0, 30, 34), (0, 29, 35), (0, 28, 36), (0, 27, 37), (0, 26, 38), (0, 25, 39), (0, 24, 40), (0, 23, 41), (0, 22, 42), (0, 21, 43), (0, 20, 44), (0, 19, 45), (0, 18, 46), (0, 17, 47), (0, 16, 48), (0, 15, 49), (0, 14, 50), (0, 13, 51), (0, 12, 52), (0, 11, 53), (0, 10, 54), (0, 9, 55), (0, 8, 56), (0, 7, 57), (0, 6, 58), (0, 5, 59), (0, 4, 60), (0, 3, 61), (0, 2, 62), (0, 1, 63), (0, 0, 64), (1, 0, 65), (2, 0, 66), (3, 0, 67), (4, 0, 68), (5, 0, 69), (6, 0, 70), (7, 0, 71), (8, 0, 72), (9, 0, 73), (10, 0, 74), (11, 0, 75), (12, 0, 76), (13, 0, 77), (14, 0, 78), (15, 0, 79), (16, 0, 80), (17, 0, 81), (18, 0, 82), (19, 0, 83), (20, 0, 84), (21, 0, 85), (22, 0, 86), (23, 0, 87), (24, 0, 88), (25, 0, 89), (26, 0, 90), (27, 0, 91), (28, 0, 92), (29, 0, 93), (30, 0, 94), (31, 0, 95), (32, 0, 96), (34, 0, 98), (36, 0, 100), (38, 0, 102), (40, 0, 104), (42, 0, 106), (44, 0, 108), (46, 0, 110), (48, 0, 112), (50, 0, 114), (52, 0, 116), (54, 0, 118), (56, 0, 120), (58, 0, 122), (60, 0, 124), (62, 0, 126), (64, 0, 128)]
theorem grid_4 : ∀ k, k < 65 → (k - 32, 32 - k, k + 32) ∈ gridL := by decide +kernel
theorem grid_2 : ∀ k, k < 65 → (2 * k - 64, 64 - 2 * k, 2 * k) ∈ gridL := by decide +kernel
theorem grid_ord : gridL.Pairwise (fun e e' => e.2.2 < e'.2.2) := by decide +kernel
/-- a root, in quarters, 64 added -/
def hv (r : Int × Int) : Int := bif decide (r.2 = 1) then 2 * r.1 else r.1
def tNr (r : Int × Int) : Nat := (2 * hv r + 64).toNat
def bndS (S : List (List Int)) : Bool := S.all fun q => Nat.ble 1 q.length && Nat.ble q.length 4 && q.all fun c => Nat.ble c.natAbs 1000000000
def scA (S F : List (List (Nat × Nat))) (T : List Nat) : Bool := scN S F T gridL (vN S T (0, 64, 0)) (Nat.add (chM 0 64 F 0 0) (aN 0 T))
/-- the check of a polynomial and its roots -/
def ckS (P : List Int) (T : List Nat) : Bool := decide (chkE P = 0) && stuB P && fouB P && bndS (stu P) && bndS (fou P) && scA (toN (stu P)) (toN (fou P)) T
theorem evB_small {x y : Int} (hx : x.natAbs ≤ 32) (hy : y.natAbs ≤ 4) : ∀ (r : List Int) (k : Nat) (s w : Int), (∀ c, c ∈ r → c.natAbs ≤ 1000000000) → k + r.length ≤ 4 → s.natAbs ≤ 1000000000 * 100 ^ k → w.natAbs ≤ 4 ^ k → evB x y r s w = true := by
  intro r
  induction r with
  | nil => intro k s w _ _ _ _; rfl
  | cons c r ih =>
    intro k s w hc hk hs hw
    have h1 := hc c (by simp)
    simp only [List.length_cons] at hk
    have hA : 100 ^ k ≤ 100 ^ 3 := Nat.pow_le_pow_right (by decide) (by omega)
    have hBA : 4 ^ k ≤ 100 ^ k := Nat.pow_le_pow_left (by decide) k
    have m1 : (s * x).natAbs ≤ 1000000000 * 100 ^ k * 32 := by rw [Int.natAbs_mul]; exact Nat.mul_le_mul hs hx
    have m2 : (c * w).natAbs ≤ 1000000000 * 4 ^ k := by rw [Int.natAbs_mul]; exact Nat.mul_le_mul h1 hw
    have m3 : (w * y).natAbs ≤ 4 ^ k * 4 := by rw [Int.natAbs_mul]; exact Nat.mul_le_mul hw hy
    have m4 := Int.natAbs_add_le (s * x) (c * w)
    have e1 : 100 ^ (k + 1) = 100 ^ k * 100 := Nat.pow_succ ..
    have e2 : 4 ^ (k + 1) = 4 ^ k * 4 := Nat.pow_succ ..
    have e3 : (100 : Nat) ^ 3 = 1000000 := rfl
    have i := ih (k + 1) (s * x + c * w) (w * y) (fun d hd => hc d (by simp [hd])) (by omega) (by omega) (by omega)
    simp only [evB, i, Bool.and_true]
    unfold okI
    simp only [Bool.and_eq_true, decide_eq_true_eq]
    omega
theorem evA_small {S : List (List Int)} (h : bndS S = true) {x y : Int} (hx : x.natAbs ≤ 32) (hy : y.natAbs ≤ 4) : evA S x y = true := by
  unfold bndS at h
  unfold evA
  rw [List.all_eq_true] at h ⊢
  intro q hq
  have := h q hq
  rw [Bool.and_eq_true, Bool.and_eq_true] at this
  obtain ⟨⟨a1, a2⟩, a3⟩ := this
  have b1 := Nat.le_of_ble_eq_true a1
  have b2 := Nat.le_of_ble_eq_true a2
  rw [Bool.and_eq_true, Bool.and_eq_true]
  refine ⟨⟨evB_small hx hy q.reverse 0 0 1 (fun c hc => ?_) (by rw [List.length_reverse]; omega) (by decide) (by decide), a1⟩, by rw [Nat.ble_eq]; omega⟩
  exact Nat.le_of_ble_eq_true (List.all_eq_true.1 a3 c (List.mem_reverse.1 hc))
theorem evS_two {x y : Int} : ∀ (r : List Int) (t s w : Int), 0 < t → ∃ m : Int, 0 < m ∧ evS (2 * x) (2 * y) r (t * s) (2 * t * w) = m * evS x y r s w := by
  intro r
  induction r with
  | nil => intro t s w ht; exact ⟨t, ht, rfl⟩
  | cons c r ih =>
    intro t s w ht
    obtain ⟨m, hm, e⟩ := ih (2 * t) (s * x + c * w) (w * y) (by omega)
    refine ⟨m, hm, ?_⟩
    simp only [evS]
    rw [← e]
    congr 1 <;> grind
theorem sg_mul {m z : Int} (hm : 0 < m) : sg (m * z) = sg z := by
  unfold sg
  by_cases h1 : 0 < z
  · rw [if_pos h1, if_pos (Int.mul_pos hm h1)]
  · by_cases h2 : z < 0
    · have := Int.mul_neg_of_pos_of_neg hm h2
      rw [if_neg h1, if_pos h2, if_neg (by omega), if_pos this]
    · have : z = 0 := by omega
      subst this
      simp
theorem sgP_two {q : List Int} {x y : Int} (h : 0 < q.length) : sgP q (2 * x) (2 * y) = sgP q x y := by
  unfold sgP
  have hr : 0 < q.reverse.length := by rw [List.length_reverse]; exact h
  cases hq : q.reverse with
  | nil => rw [hq] at hr; simp at hr
  | cons c r =>
    simp only [evS]
    obtain ⟨m, hm, e⟩ := evS_two (x := x) (y := y) r 1 (0 * x + c * 1) (1 * y) (by decide)
    have e1 : (0 : Int) * (2 * x) + c * 1 = 1 * (0 * x + c * 1) := by omega
    have e2 : (1 : Int) * (2 * y) = 2 * 1 * (1 * y) := by omega
    rw [e1, e2, e, sg_mul hm]
theorem vAt_two {S : List (List Int)} (h : bndS S = true) {x y : Int} : vAt S (2 * x) (2 * y) = vAt S x y := by
  unfold vAt
  congr 1
  refine List.map_congr_left fun q hq => ?_
  unfold bndS at h
  have := List.all_eq_true.1 h q hq
  rw [Bool.and_eq_true, Bool.and_eq_true] at this
  exact sgP_two (Nat.le_of_ble_eq_true this.1.1)
def dO (X : Int × Int) : Option (Int × Int) → List (Int × Int) → Nat
  | _, [] => 0
  | pv, r :: l => (bif leR r X && nwR r pv then 1 else 0) + dO X (some r) l
def aO (X : Int × Int) : List (Int × Int) → Nat
  | [] => 0
  | r :: l => (bif leR r X then 1 else 0) + aO X l
def X24 (X : Int × Int) : Prop := -32 ≤ X.1 ∧ X.1 ≤ 32 ∧ (X.2 = 2 ∨ X.2 = 4)
def jX (X : Int × Int) : Nat := if X.2 = 4 then (X.1 + 64).toNat else (2 * X.1 + 64).toNat
theorem le_t {r X : Int × Int} (hr : okRt r) (hX : X24 X) : leR r X = Nat.ble (tNr r) (jX X) := by
  obtain ⟨r1, r2⟩ := r
  obtain ⟨x1, x2⟩ := X
  unfold okRt at hr
  unfold X24 at hX
  simp only [] at hr hX
  rw [Bool.eq_iff_iff]
  unfold leR
  rw [Nat.ble_eq, decide_eq_true_eq]
  unfold tNr jX hv
  simp only []
  rcases (by omega : r2 = 1 ∨ r2 = 2) with rfl | rfl <;> rcases hX.2.2 with rfl | rfl <;> simp <;> omega
theorem le_tr {r s : Int × Int} (hr : okRt r) (hs : okRt s) : leR r s = Nat.ble (tNr r) (tNr s) := by
  obtain ⟨r1, r2⟩ := r
  obtain ⟨x1, x2⟩ := s
  unfold okRt at hr hs
  simp only [] at hr hs
  rw [Bool.eq_iff_iff]
  unfold leR
  rw [Nat.ble_eq, decide_eq_true_eq]
  unfold tNr hv
  simp only []
  rcases (by omega : r2 = 1 ∨ r2 = 2) with rfl | rfl <;> rcases (by omega : x2 = 1 ∨ x2 = 2) with rfl | rfl <;> simp <;> omega
def pvT : Option (Int × Int) → Nat
  | none => 0
  | some s => tNr s
theorem dN_eq {X : Int × Int} (hX : X24 X) : ∀ (R : List (Int × Int)) (pv : Option (Int × Int)), (∀ r, r ∈ R → okRt r) → (∀ s, pv = some s → okRt s) → dN (jX X) (pvT pv) (R.map tNr) = dO X pv R := by
  intro R
  induction R with
  | nil => intro pv _ _; rfl
  | cons r R ih =>
    intro pv h1 h2
    have hr := h1 r (by simp)
    have i := ih (some r) (fun x hx => h1 x (by simp [hx])) (fun s hs => by cases hs; exact hr)
    simp only [pvT] at i
    simp only [List.map_cons, dN, dO]
    rw [i, ← le_t hr hX]
    cases leR r X
    · simp
    · have hb : Nat.ble (tNr r) (pvT pv) = !(nwR r pv) := by
        cases pv with
        | none =>
          simp only [nwR, Bool.not_true, pvT]
          have : 52 ≤ tNr r := by
            unfold okRt at hr
            unfold tNr hv
            cases decide (r.2 = 1) <;> simp <;> omega
          rw [Bool.eq_false_iff]
          intro h
          have := Nat.le_of_ble_eq_true h
          omega
        | some s =>
          simp only [nwR, Bool.not_not, pvT]
          exact (le_tr hr (h2 s rfl)).symm
      rw [hb]
      cases nwR r pv <;> simp <;> omega
theorem aN_eq {X : Int × Int} (hX : X24 X) : ∀ (R : List (Int × Int)), (∀ r, r ∈ R → okRt r) → aN (jX X) (R.map tNr) = aO X R := by
  intro R
  induction R with
  | nil => intro _; rfl
  | cons r R ih =>
    intro h1
    simp only [List.map_cons, aN, aO]
    rw [ih (fun x hx => h1 x (by simp [hx])), ← le_t (h1 r (by simp)) hX]
    cases leR r X <;> simp <;> omega
section
variable {X Y : Int × Int} (hX : X24 X) (hY : X24 Y) (hXY : jX X ≤ jX Y)
include hX hY hXY
theorem cO_eq : ∀ (R : List (Int × Int)) (pv : Option (Int × Int)), (∀ r, r ∈ R → okRt r) → cO X Y pv R + dO X pv R = dO Y pv R := by
  intro R
  induction R with
  | nil => intro pv _; rfl
  | cons r R ih =>
    intro pv h1
    have i := ih (some r) fun x hx => h1 x (by simp [hx])
    have hr := h1 r (by simp)
    simp only [cO, dO, inX]
    have hm : leR r X = true → leR r Y = true := fun h => by
      rw [le_t hr hX] at h
      rw [le_t hr hY, Nat.ble_eq]
      have := Nat.le_of_ble_eq_true h
      omega
    cases h1 : leR r X <;> cases h2 : leR r Y <;> cases nwR r pv <;> simp <;> first | omega | (rw [hm h1] at h2; cases h2)
theorem cA_eq : ∀ (R : List (Int × Int)), (∀ r, r ∈ R → okRt r) → cA X Y R + aO X R = aO Y R := by
  intro R
  induction R with
  | nil => intro _; rfl
  | cons r R ih =>
    intro h1
    have i := ih fun x hx => h1 x (by simp [hx])
    have hr := h1 r (by simp)
    simp only [cA, aO, inX]
    have hm : leR r X = true → leR r Y = true := fun h => by
      rw [le_t hr hX] at h
      rw [le_t hr hY, Nat.ble_eq]
      have := Nat.le_of_ble_eq_true h
      omega
    cases h1 : leR r X <;> cases h2 : leR r Y <;> simp <;> first | omega | (rw [hm h1] at h2; cases h2)
end
theorem jX_grid {X : Int × Int} (hX : X24 X) : ∃ e, e ∈ gridL ∧ e.2.2 = jX X ∧ ∀ S, bndS S = true → chM e.1 e.2.1 (toN S) 0 0 = vAt S X.1 X.2 := by
  obtain ⟨x, y⟩ := X
  unfold X24 at hX
  simp only [] at hX
  obtain ⟨h1, h2, h3⟩ := hX
  obtain ⟨k, hk⟩ : ∃ k : Nat, (k : Int) = x + 32 := ⟨(x + 32).toNat, by omega⟩
  rcases h3 with rfl | rfl
  · refine ⟨_, grid_2 k (by omega), ?_, fun S hS => ?_⟩
    · unfold jX
      rw [if_neg (by simp)]
      simp only []
      omega
    · rw [chM_vAt, ← vAt_two hS (x := x) (y := 2)]
      congr 1
      simp only []
      omega
  · refine ⟨_, grid_4 k (by omega), ?_, fun S hS => ?_⟩
    · unfold jX
      rw [if_pos rfl]
      simp only []
      omega
    · rw [chM_vAt]
      congr 1
      simp only []
      omega
theorem law_of {P : List Int} {R : List (Int × Int)} {T : List Nat} (hT : R.map tNr = T) (hR : ∀ r, r ∈ R → okRt r) (h : ckS P T = true) {X Y : Int × Int} (hX : X24 X) (hY : X24 Y) (hXY : X.1 * Y.2 ≤ Y.1 * X.2) : LawS P R X Y := by
  unfold ckS at h
  simp only [Bool.and_eq_true] at h
  obtain ⟨⟨⟨⟨⟨h1, h2⟩, h3⟩, h4⟩, h5⟩, h6⟩ := h
  have h1 := of_decide_eq_true h1
  have x1 : X.1.natAbs ≤ 32 ∧ X.2.natAbs ≤ 4 := by unfold X24 at hX; omega
  have y1 : Y.1.natAbs ≤ 32 ∧ Y.2.natAbs ≤ 4 := by unfold X24 at hY; omega
  have hj : jX X ≤ jX Y := by
    obtain ⟨a, b⟩ := X
    obtain ⟨c, d⟩ := Y
    unfold X24 at hX hY
    simp only [] at hX hY hXY
    unfold jX
    simp only []
    rcases hX.2.2 with rfl | rfl <;> rcases hY.2.2 with rfl | rfl <;> simp <;> omega
  obtain ⟨s1, s2⟩ := scN_spec _ _ _ h6
  obtain ⟨eX, a1, a2, a3⟩ := jX_grid hX
  obtain ⟨eY, b1, b2, b3⟩ := jX_grid hY
  have vX := (s1 eX a1).1
  have vY := (s1 eY b1).1
  have c1 := cO_eq hX hY hj R none hR
  have c2 := cA_eq hX hY hj R hR
  have d1 := dN_eq hX R none hR (fun s hs => by cases hs)
  have d2 := dN_eq hY R none hR (fun s hs => by cases hs)
  have g1 := aN_eq hX R hR
  have g2 := aN_eq hY R hR
  simp only [pvT] at d1 d2
  rw [hT] at d1 d2 g1 g2
  unfold vN at vX vY
  have vX : chM eX.1 eX.2.1 (toN (stu P)) 0 0 + dN eX.2.2 0 T = _ := vX
  have vY : chM eY.1 eY.2.1 (toN (stu P)) 0 0 + dN eY.2.2 0 T = _ := vY
  rw [a3 _ h4, a2, d1] at vX
  rw [b3 _ h4, b2, d2] at vY
  have key : vAt (fou P) Y.1 Y.2 + aO Y R ≤ vAt (fou P) X.1 X.2 + aO X R ∧ (vAt (fou P) X.1 X.2 + aO X R - (vAt (fou P) Y.1 Y.2 + aO Y R)) % 2 = 0 := by
    have hfX : chM eX.1 eX.2.1 (toN (fou P)) 0 0 + aN eX.2.2 T = vAt (fou P) X.1 X.2 + aO X R := by rw [a3 _ h5, a2, g1]
    have hfY : chM eY.1 eY.2.1 (toN (fou P)) 0 0 + aN eY.2.2 T = vAt (fou P) Y.1 Y.2 + aO Y R := by rw [b3 _ h5, b2, g2]
    rw [← hfX, ← hfY]
    obtain ⟨i, hi, ei⟩ := List.getElem_of_mem a1
    obtain ⟨k, hk, ek⟩ := List.getElem_of_mem b1
    have ho := List.pairwise_iff_getElem.1 grid_ord
    have hp := List.pairwise_iff_getElem.1 s2
    rcases Nat.lt_trichotomy i k with hik | hik | hik
    · have := hp i k hi hk hik
      rw [ei, ek] at this
      exact this
    · subst hik
      rw [ei] at ek
      subst ek
      omega
    · have := ho k i hk hi hik
      rw [ei, ek] at this
      omega
  refine ⟨h1, h2, evA_small h4 x1.1 x1.2, evA_small h4 y1.1 y1.2, h3, evA_small h5 x1.1 x1.2, evA_small h5 y1.1 y1.2, ?_, ?_, ?_⟩
  · omega
  · omega
  · rw [Int.tmod_eq_emod_of_nonneg (by omega)]
    omega
end Go.Proofs.Ytkmompbfcgjgmaa.nt
namespace Go.Proofs.Ytkmompbfcgjgmaa.nt
open Go.GE
set_option linter.unusedVariables false
set_option linter.unusedSimpArgs false
set_option linter.unusedSectionVars false
set_option maxRecDepth 1000000
set_option maxHeartbeats 4000000
def rtAll : List (Int × Int) := [(-3, 1), (-3, 2), (-2, 1), (-2, 2), (-1, 1), (-1, 2), (0, 1), (0, 2), (1, 1), (1, 2), (2, 1), (2, 2), (3, 1), (3, 2)]
theorem rt_mem {r : Int × Int} (h : okRt r) : r ∈ rtAll := by
  obtain ⟨a, b⟩ := r
  unfold okRt at h
  simp only [] at h
  rcases (by omega : a = -3 ∨ a = -2 ∨ a = -1 ∨ a = 0 ∨ a = 1 ∨ a = 2 ∨ a = 3) with rfl | rfl | rfl | rfl | rfl | rfl | rfl <;> rcases (by omega : b = 1 ∨ b = 2) with rfl | rfl <;> decide
def rk (r : Int × Int) : Nat := (2 * (r.1 + 3) + (r.2 - 1)).toNat
def ngP (P : List Int) : List Int := P.map fun x => -x
def ckN (P : List Int) : Bool := (fun Q => decide (chkE Q = 0) && stuB Q && fouB Q && bndS (fou Q) && decide (stu Q = stu P)) (ngP P)
def ckA (l : List (Int × Int)) (base : List Int) : Bool := (fun P => bif okP P then ckS P ((fldR l []).map tNr) && ckN P else true) (fldP l base)
theorem slp_neg {p : List Int} : slp (ngP p) = ngP (slp p) := by
  unfold slp ngP
  rw [List.length_map, List.map_map]
  refine List.map_congr_left fun i hi => ?_
  simp only [Function.comp, List.getD_eq_getElem?_getD, List.getElem?_map]
  cases p[i + 1]? with
  | none => simp
  | some v => simp [Int.neg_mul]
theorem fou_neg {p : List Int} : fou (ngP p) = (fou p).map ngP := by
  unfold fou
  rw [show (ngP p).length = p.length by unfold ngP; rw [List.length_map]]
  cases Nat.beq p.length 2 <;> cases Nat.beq p.length 3 <;> simp [slp_neg]
theorem evS_neg {x y : Int} : ∀ (r : List Int) (s w : Int), evS x y (r.map fun c => -c) (-s) w = -(evS x y r s w) := by
  intro r
  induction r with
  | nil => intro s w; rfl
  | cons c r ih =>
    intro s w
    simp only [List.map_cons, evS]
    rw [← ih]
    congr 1
    grind
theorem sg_neg {z : Int} : sg (-z) = -(sg z) := by
  unfold sg
  split <;> split <;> (try split) <;> omega
theorem sgP_neg {q : List Int} {x y : Int} : sgP (ngP q) x y = -(sgP q x y) := by
  unfold sgP ngP
  rw [← List.map_reverse, ← sg_neg, ← evS_neg]
  rfl
theorem chN_neg : ∀ (S : List Int) (l : Int) (n : Nat), chN (S.map fun s => -s) (-l) n = chN S l n := by
  intro S
  induction S with
  | nil => intro l n; rfl
  | cons s S ih =>
    intro l n
    simp only [List.map_cons, chN]
    by_cases h : s = 0
    · rw [if_pos h, if_pos (by omega), ih]
    · rw [if_neg h, if_neg (by omega), ih]
      congr 1
      by_cases c : l ≠ 0 ∧ s ≠ l
      · rw [if_pos c, if_pos (by omega)]
      · rw [if_neg c, if_neg (by omega)]
theorem vAt_neg {S : List (List Int)} {x y : Int} : vAt (S.map ngP) x y = vAt S x y := by
  unfold vAt
  rw [List.map_map]
  have e : (S.map ((fun q => sgP q x y) ∘ ngP)) = (S.map fun q => sgP q x y).map fun s => -s := by
    rw [List.map_map]
    refine List.map_congr_left fun q _ => ?_
    simp only [Function.comp]
    exact sgP_neg
  rw [e]
  exact chN_neg _ 0 0
theorem inC_neg {x : Int} : inC (-x) = inC x := by
  rw [Bool.eq_iff_iff]
  unfold inC
  simp only [Bool.and_eq_true, decide_eq_true_eq]
  omega
theorem okP_neg {g : Int} {P : List Int} : okP (negP g P) = okP P := by
  unfold negP okP
  cases decide (g < 0)
  · rfl
  · rw [cond_true, List.all_map]
    congr 1
    funext x
    exact inC_neg
theorem law_all {l : List (Int × Int)} {base P : List Int} {R : List (Int × Int)} (hP : fldP l base = P) (hR : R.map tNr = (fldR l []).map tNr) (hRo : ∀ r, r ∈ R → okRt r) (h : ckA l base = true) (g : Int) (hok : okP (negP g P) = true) {X Y : Int × Int} (hX : X24 X) (hY : X24 Y) (hXY : X.1 * Y.2 ≤ Y.1 * X.2) : LawS (negP g P) R X Y := by
  rw [okP_neg] at hok
  have h : (bif okP (fldP l base) then ckS (fldP l base) ((fldR l []).map tNr) && ckN (fldP l base) else true) = true := h
  rw [hP, hok, cond_true, Bool.and_eq_true] at h
  have L := law_of hR hRo h.1 hX hY hXY
  unfold negP
  cases decide (g < 0)
  · exact L
  · rw [cond_true]
    have hN := h.2
    have hN : (decide (chkE (ngP P) = 0) && stuB (ngP P) && fouB (ngP P) && bndS (fou (ngP P)) && decide (stu (ngP P) = stu P)) = true := hN
    simp only [Bool.and_eq_true, decide_eq_true_eq] at hN
    obtain ⟨⟨⟨⟨n1, n2⟩, n3⟩, n4⟩, n5⟩ := hN
    have x1 : X.1.natAbs ≤ 32 ∧ X.2.natAbs ≤ 4 := by unfold X24 at hX; omega
    have y1 : Y.1.natAbs ≤ 32 ∧ Y.2.natAbs ≤ 4 := by unfold X24 at hY; omega
    show LawS (ngP P) R X Y
    refine ⟨n1, n2, by rw [n5]; exact L.lsx, by rw [n5]; exact L.lsy, n3, evA_small n4 x1.1 x1.2, evA_small n4 y1.1 y1.2, by rw [n5]; exact L.ln, ?_, ?_⟩
    · rw [fou_neg, vAt_neg, vAt_neg]; exact L.lm
    · rw [fou_neg, vAt_neg, vAt_neg]; exact L.lz
def srt2 (a b : Int × Int) : List (Int × Int) := bif Nat.ble (rk a) (rk b) then [a, b] else [b, a]
def srt3 (a b c : Int × Int) : List (Int × Int) :=
  bif Nat.ble (rk a) (rk b) then (bif Nat.ble (rk b) (rk c) then [a, b, c] else bif Nat.ble (rk a) (rk c) then [a, c, b] else [c, a, b])
  else (bif Nat.ble (rk a) (rk c) then [b, a, c] else bif Nat.ble (rk b) (rk c) then [b, c, a] else [c, b, a])
def eqL : List Int → List Int → Bool
  | [], [] => true
  | a :: l, b :: m => (a == b) && eqL l m
  | _, _ => false
def eqN : List Nat → List Nat → Bool
  | [], [] => true
  | a :: l, b :: m => Nat.beq a b && eqN l m
  | _, _ => false
theorem eqL_eq : ∀ {l m : List Int}, eqL l m = true → l = m := by
  intro l
  induction l with
  | nil => intro m h; cases m <;> simp [eqL] at h ⊢
  | cons a l ih =>
    intro m h
    cases m with
    | nil => simp [eqL] at h
    | cons b m =>
      simp only [eqL, Bool.and_eq_true, beq_iff_eq] at h
      rw [h.1, ih h.2]
theorem eqN_eq : ∀ {l m : List Nat}, eqN l m = true → l = m := by
  intro l
  induction l with
  | nil => intro m h; cases m <;> simp [eqN] at h ⊢
  | cons a l ih =>
    intro m h
    cases m with
    | nil => simp [eqN] at h
    | cons b m =>
      simp only [eqN, Bool.and_eq_true] at h
      rw [Nat.eq_of_beq_eq_true h.1, ih h.2]
def pm3 (a b c : Int × Int) : Bool := eqL (fldP [a, b, c] [1]) (fldP (srt3 a b c) [1]) && eqN ((fldR [a, b, c] []).map tNr) ((fldR (srt3 a b c) []).map tNr)
def pm2 (a b : Int × Int) : Bool := eqL (fldP [a, b] [1]) (fldP (srt2 a b) [1]) && eqN ((fldR [a, b] []).map tNr) ((fldR (srt2 a b) []).map tNr)
theorem pm2_all : (rtAll.all fun a => rtAll.all fun b => pm2 a b) = true := by kernel_rfl
theorem pm3_0 : (rtAll.all fun b => rtAll.all fun c => pm3 (-3, 1) b c) = true := by kernel_rfl
end Go.Proofs.Ytkmompbfcgjgmaa.nt
namespace Go.Proofs.Ytkmompbfcgjgmaa.nt
open Go.GE
set_option linter.unusedVariables false
set_option linter.unusedSimpArgs false
set_option linter.unusedSectionVars false
set_option maxRecDepth 1000000
set_option maxHeartbeats 4000000
theorem qB_all : ((rtAll.all fun a => ckA [a] [2, 0, 1]) && ckA [] [2, 0, 1]) = true := by kernel_rfl
theorem q_0_2 : (rtAll.all fun c => bif Nat.ble (rk (-2, 1)) (rk c) then ckA [(-3, 1), (-2, 1), c] [1] else true) = true := by kernel_rfl
theorem q_2_2 : (rtAll.all fun c => bif Nat.ble (rk (-2, 1)) (rk c) then ckA [(-2, 1), (-2, 1), c] [1] else true) = true := by kernel_rfl
theorem q_1_4 : (rtAll.all fun c => bif Nat.ble (rk (-1, 1)) (rk c) then ckA [(-3, 2), (-1, 1), c] [1] else true) = true := by kernel_rfl
theorem q_4_4 : (rtAll.all fun c => bif Nat.ble (rk (-1, 1)) (rk c) then ckA [(-1, 1), (-1, 1), c] [1] else true) = true := by kernel_rfl
theorem q_5_5 : (rtAll.all fun c => bif Nat.ble (rk (-1, 2)) (rk c) then ckA [(-1, 2), (-1, 2), c] [1] else true) = true := by kernel_rfl
theorem q_3_6 : (rtAll.all fun c => bif Nat.ble (rk (0, 1)) (rk c) then ckA [(-2, 2), (0, 1), c] [1] else true) = true := by kernel_rfl
theorem q_0_7 : (rtAll.all fun c => bif Nat.ble (rk (0, 2)) (rk c) then ckA [(-3, 1), (0, 2), c] [1] else true) = true := by kernel_rfl
theorem q_2_7 : (rtAll.all fun c => bif Nat.ble (rk (0, 2)) (rk c) then ckA [(-2, 1), (0, 2), c] [1] else true) = true := by kernel_rfl
theorem q_7_7 : (rtAll.all fun c => bif Nat.ble (rk (0, 2)) (rk c) then ckA [(0, 2), (0, 2), c] [1] else true) = true := by kernel_rfl
theorem q_6_8 : (rtAll.all fun c => bif Nat.ble (rk (1, 1)) (rk c) then ckA [(0, 1), (1, 1), c] [1] else true) = true := by kernel_rfl
theorem q_1_9 : (rtAll.all fun c => bif Nat.ble (rk (1, 2)) (rk c) then ckA [(-3, 2), (1, 2), c] [1] else true) = true := by kernel_rfl
theorem q_4_9 : (rtAll.all fun c => bif Nat.ble (rk (1, 2)) (rk c) then ckA [(-1, 1), (1, 2), c] [1] else true) = true := by kernel_rfl
theorem q_9_9 : (rtAll.all fun c => bif Nat.ble (rk (1, 2)) (rk c) then ckA [(1, 2), (1, 2), c] [1] else true) = true := by kernel_rfl
theorem q_5_10 : (rtAll.all fun c => bif Nat.ble (rk (2, 1)) (rk c) then ckA [(-1, 2), (2, 1), c] [1] else true) = true := by kernel_rfl
theorem q_10_10 : (rtAll.all fun c => bif Nat.ble (rk (2, 1)) (rk c) then ckA [(2, 1), (2, 1), c] [1] else true) = true := by kernel_rfl
theorem q_3_11 : (rtAll.all fun c => bif Nat.ble (rk (2, 2)) (rk c) then ckA [(-2, 2), (2, 2), c] [1] else true) = true := by kernel_rfl
theorem q_8_11 : (rtAll.all fun c => bif Nat.ble (rk (2, 2)) (rk c) then ckA [(1, 1), (2, 2), c] [1] else true) = true := by kernel_rfl
theorem q_0_12 : (rtAll.all fun c => bif Nat.ble (rk (3, 1)) (rk c) then ckA [(-3, 1), (3, 1), c] [1] else true) = true := by kernel_rfl
theorem q_2_12 : (rtAll.all fun c => bif Nat.ble (rk (3, 1)) (rk c) then ckA [(-2, 1), (3, 1), c] [1] else true) = true := by kernel_rfl
theorem q_7_12 : (rtAll.all fun c => bif Nat.ble (rk (3, 1)) (rk c) then ckA [(0, 2), (3, 1), c] [1] else true) = true := by kernel_rfl
theorem q_12_12 : (rtAll.all fun c => bif Nat.ble (rk (3, 1)) (rk c) then ckA [(3, 1), (3, 1), c] [1] else true) = true := by kernel_rfl
theorem pm3_4 : (rtAll.all fun b => rtAll.all fun c => pm3 (-1, 1) b c) = true := by kernel_rfl
theorem pm3_9 : (rtAll.all fun b => rtAll.all fun c => pm3 (1, 2) b c) = true := by kernel_rfl
theorem q_0_13 : (rtAll.all fun c => bif Nat.ble (rk (3, 2)) (rk c) then ckA [(-3, 1), (3, 2), c] [1] else true) = true := by kernel_rfl
theorem q_5_13 : (rtAll.all fun c => bif Nat.ble (rk (3, 2)) (rk c) then ckA [(-1, 2), (3, 2), c] [1] else true) = true := by kernel_rfl
theorem q_10_13 : (rtAll.all fun c => bif Nat.ble (rk (3, 2)) (rk c) then ckA [(2, 1), (3, 2), c] [1] else true) = true := by kernel_rfl
end Go.Proofs.Ytkmompbfcgjgmaa.nt
namespace Go.Proofs.Ytkmompbfcgjgmaa.nt
open Go.GE
set_option linter.unusedVariables false
set_option linter.unusedSimpArgs false
set_option linter.unusedSectionVars false
set_option maxRecDepth 1000000
set_option maxHeartbeats 4000000
theorem qC_all : ((rtAll.all fun a => ckA [a] [1, 1, 1]) && ckA [] [1, 1, 1]) = true := by kernel_rfl
theorem q_1_2 : (rtAll.all fun c => bif Nat.ble (rk (-2, 1)) (rk c) then ckA [(-3, 2), (-2, 1), c] [1] else true) = true := by kernel_rfl
theorem q2_2 : (rtAll.all fun b => bif Nat.ble (rk (-2, 1)) (rk b) then ckA [(-2, 1), b] [1] else true) = true := by kernel_rfl
theorem q_2_4 : (rtAll.all fun c => bif Nat.ble (rk (-1, 1)) (rk c) then ckA [(-2, 1), (-1, 1), c] [1] else true) = true := by kernel_rfl
theorem q2_4 : (rtAll.all fun b => bif Nat.ble (rk (-1, 1)) (rk b) then ckA [(-1, 1), b] [1] else true) = true := by kernel_rfl
theorem q2_5 : (rtAll.all fun b => bif Nat.ble (rk (-1, 2)) (rk b) then ckA [(-1, 2), b] [1] else true) = true := by kernel_rfl
theorem q_4_6 : (rtAll.all fun c => bif Nat.ble (rk (0, 1)) (rk c) then ckA [(-1, 1), (0, 1), c] [1] else true) = true := by kernel_rfl
theorem q_1_7 : (rtAll.all fun c => bif Nat.ble (rk (0, 2)) (rk c) then ckA [(-3, 2), (0, 2), c] [1] else true) = true := by kernel_rfl
theorem q_3_7 : (rtAll.all fun c => bif Nat.ble (rk (0, 2)) (rk c) then ckA [(-2, 2), (0, 2), c] [1] else true) = true := by kernel_rfl
theorem q2_7 : (rtAll.all fun b => bif Nat.ble (rk (0, 2)) (rk b) then ckA [(0, 2), b] [1] else true) = true := by kernel_rfl
theorem q_7_8 : (rtAll.all fun c => bif Nat.ble (rk (1, 1)) (rk c) then ckA [(0, 2), (1, 1), c] [1] else true) = true := by kernel_rfl
theorem q_2_9 : (rtAll.all fun c => bif Nat.ble (rk (1, 2)) (rk c) then ckA [(-2, 1), (1, 2), c] [1] else true) = true := by kernel_rfl
theorem q_5_9 : (rtAll.all fun c => bif Nat.ble (rk (1, 2)) (rk c) then ckA [(-1, 2), (1, 2), c] [1] else true) = true := by kernel_rfl
theorem q2_9 : (rtAll.all fun b => bif Nat.ble (rk (1, 2)) (rk b) then ckA [(1, 2), b] [1] else true) = true := by kernel_rfl
theorem q_6_10 : (rtAll.all fun c => bif Nat.ble (rk (2, 1)) (rk c) then ckA [(0, 1), (2, 1), c] [1] else true) = true := by kernel_rfl
theorem q2_10 : (rtAll.all fun b => bif Nat.ble (rk (2, 1)) (rk b) then ckA [(2, 1), b] [1] else true) = true := by kernel_rfl
theorem q_4_11 : (rtAll.all fun c => bif Nat.ble (rk (2, 2)) (rk c) then ckA [(-1, 1), (2, 2), c] [1] else true) = true := by kernel_rfl
theorem q_9_11 : (rtAll.all fun c => bif Nat.ble (rk (2, 2)) (rk c) then ckA [(1, 2), (2, 2), c] [1] else true) = true := by kernel_rfl
theorem q_1_12 : (rtAll.all fun c => bif Nat.ble (rk (3, 1)) (rk c) then ckA [(-3, 2), (3, 1), c] [1] else true) = true := by kernel_rfl
theorem q_3_12 : (rtAll.all fun c => bif Nat.ble (rk (3, 1)) (rk c) then ckA [(-2, 2), (3, 1), c] [1] else true) = true := by kernel_rfl
theorem q_8_12 : (rtAll.all fun c => bif Nat.ble (rk (3, 1)) (rk c) then ckA [(1, 1), (3, 1), c] [1] else true) = true := by kernel_rfl
theorem q2_12 : (rtAll.all fun b => bif Nat.ble (rk (3, 1)) (rk b) then ckA [(3, 1), b] [1] else true) = true := by kernel_rfl
theorem pm3_5 : (rtAll.all fun b => rtAll.all fun c => pm3 (-1, 2) b c) = true := by kernel_rfl
theorem pm3_10 : (rtAll.all fun b => rtAll.all fun c => pm3 (2, 1) b c) = true := by kernel_rfl
theorem q_1_13 : (rtAll.all fun c => bif Nat.ble (rk (3, 2)) (rk c) then ckA [(-3, 2), (3, 2), c] [1] else true) = true := by kernel_rfl
theorem q_6_13 : (rtAll.all fun c => bif Nat.ble (rk (3, 2)) (rk c) then ckA [(0, 1), (3, 2), c] [1] else true) = true := by kernel_rfl
theorem q_11_13 : (rtAll.all fun c => bif Nat.ble (rk (3, 2)) (rk c) then ckA [(2, 2), (3, 2), c] [1] else true) = true := by kernel_rfl
end Go.Proofs.Ytkmompbfcgjgmaa.nt
namespace Go.Proofs.Ytkmompbfcgjgmaa.nt
open Go.GE
set_option linter.unusedVariables false
set_option linter.unusedSimpArgs false
set_option linter.unusedSectionVars false
set_option maxRecDepth 1000000
set_option maxHeartbeats 4000000
theorem q_0_0 : (rtAll.all fun c => bif Nat.ble (rk (-3, 1)) (rk c) then ckA [(-3, 1), (-3, 1), c] [1] else true) = true := by kernel_rfl
theorem q_0_1 : (rtAll.all fun c => bif Nat.ble (rk (-3, 2)) (rk c) then ckA [(-3, 1), (-3, 2), c] [1] else true) = true := by kernel_rfl
theorem q_0_3 : (rtAll.all fun c => bif Nat.ble (rk (-2, 2)) (rk c) then ckA [(-3, 1), (-2, 2), c] [1] else true) = true := by kernel_rfl
theorem q_3_3 : (rtAll.all fun c => bif Nat.ble (rk (-2, 2)) (rk c) then ckA [(-2, 2), (-2, 2), c] [1] else true) = true := by kernel_rfl
theorem q_0_5 : (rtAll.all fun c => bif Nat.ble (rk (-1, 2)) (rk c) then ckA [(-3, 1), (-1, 2), c] [1] else true) = true := by kernel_rfl
theorem q_2_5 : (rtAll.all fun c => bif Nat.ble (rk (-1, 2)) (rk c) then ckA [(-2, 1), (-1, 2), c] [1] else true) = true := by kernel_rfl
theorem q_0_6 : (rtAll.all fun c => bif Nat.ble (rk (0, 1)) (rk c) then ckA [(-3, 1), (0, 1), c] [1] else true) = true := by kernel_rfl
theorem q_5_6 : (rtAll.all fun c => bif Nat.ble (rk (0, 1)) (rk c) then ckA [(-1, 2), (0, 1), c] [1] else true) = true := by kernel_rfl
theorem q_4_7 : (rtAll.all fun c => bif Nat.ble (rk (0, 2)) (rk c) then ckA [(-1, 1), (0, 2), c] [1] else true) = true := by kernel_rfl
theorem q_0_8 : (rtAll.all fun c => bif Nat.ble (rk (1, 1)) (rk c) then ckA [(-3, 1), (1, 1), c] [1] else true) = true := by kernel_rfl
theorem q_3_8 : (rtAll.all fun c => bif Nat.ble (rk (1, 1)) (rk c) then ckA [(-2, 2), (1, 1), c] [1] else true) = true := by kernel_rfl
theorem q_8_8 : (rtAll.all fun c => bif Nat.ble (rk (1, 1)) (rk c) then ckA [(1, 1), (1, 1), c] [1] else true) = true := by kernel_rfl
theorem q_6_9 : (rtAll.all fun c => bif Nat.ble (rk (1, 2)) (rk c) then ckA [(0, 1), (1, 2), c] [1] else true) = true := by kernel_rfl
theorem q_0_10 : (rtAll.all fun c => bif Nat.ble (rk (2, 1)) (rk c) then ckA [(-3, 1), (2, 1), c] [1] else true) = true := by kernel_rfl
theorem q_2_10 : (rtAll.all fun c => bif Nat.ble (rk (2, 1)) (rk c) then ckA [(-2, 1), (2, 1), c] [1] else true) = true := by kernel_rfl
theorem q_7_10 : (rtAll.all fun c => bif Nat.ble (rk (2, 1)) (rk c) then ckA [(0, 2), (2, 1), c] [1] else true) = true := by kernel_rfl
theorem q_0_11 : (rtAll.all fun c => bif Nat.ble (rk (2, 2)) (rk c) then ckA [(-3, 1), (2, 2), c] [1] else true) = true := by kernel_rfl
theorem q_5_11 : (rtAll.all fun c => bif Nat.ble (rk (2, 2)) (rk c) then ckA [(-1, 2), (2, 2), c] [1] else true) = true := by kernel_rfl
theorem q_10_11 : (rtAll.all fun c => bif Nat.ble (rk (2, 2)) (rk c) then ckA [(2, 1), (2, 2), c] [1] else true) = true := by kernel_rfl
theorem q_4_12 : (rtAll.all fun c => bif Nat.ble (rk (3, 1)) (rk c) then ckA [(-1, 1), (3, 1), c] [1] else true) = true := by kernel_rfl
theorem q_9_12 : (rtAll.all fun c => bif Nat.ble (rk (3, 1)) (rk c) then ckA [(1, 2), (3, 1), c] [1] else true) = true := by kernel_rfl
theorem pm3_1 : (rtAll.all fun b => rtAll.all fun c => pm3 (-3, 2) b c) = true := by kernel_rfl
theorem pm3_6 : (rtAll.all fun b => rtAll.all fun c => pm3 (0, 1) b c) = true := by kernel_rfl
theorem pm3_11 : (rtAll.all fun b => rtAll.all fun c => pm3 (2, 2) b c) = true := by kernel_rfl
theorem q_2_13 : (rtAll.all fun c => bif Nat.ble (rk (3, 2)) (rk c) then ckA [(-2, 1), (3, 2), c] [1] else true) = true := by kernel_rfl
theorem q_7_13 : (rtAll.all fun c => bif Nat.ble (rk (3, 2)) (rk c) then ckA [(0, 2), (3, 2), c] [1] else true) = true := by kernel_rfl
theorem q_12_13 : (rtAll.all fun c => bif Nat.ble (rk (3, 2)) (rk c) then ckA [(3, 1), (3, 2), c] [1] else true) = true := by kernel_rfl
end Go.Proofs.Ytkmompbfcgjgmaa.nt
namespace Go.Proofs.Ytkmompbfcgjgmaa.nt
open Go.GE
set_option linter.unusedVariables false
set_option linter.unusedSimpArgs false
set_option linter.unusedSectionVars false
set_option maxRecDepth 1000000
set_option maxHeartbeats 4000000
theorem q2_0 : (rtAll.all fun b => bif Nat.ble (rk (-3, 1)) (rk b) then ckA [(-3, 1), b] [1] else true) = true := by kernel_rfl
theorem q_1_1 : (rtAll.all fun c => bif Nat.ble (rk (-3, 2)) (rk c) then ckA [(-3, 2), (-3, 2), c] [1] else true) = true := by kernel_rfl
theorem q_1_3 : (rtAll.all fun c => bif Nat.ble (rk (-2, 2)) (rk c) then ckA [(-3, 2), (-2, 2), c] [1] else true) = true := by kernel_rfl
theorem q2_3 : (rtAll.all fun b => bif Nat.ble (rk (-2, 2)) (rk b) then ckA [(-2, 2), b] [1] else true) = true := by kernel_rfl
theorem q_1_5 : (rtAll.all fun c => bif Nat.ble (rk (-1, 2)) (rk c) then ckA [(-3, 2), (-1, 2), c] [1] else true) = true := by kernel_rfl
theorem q_3_5 : (rtAll.all fun c => bif Nat.ble (rk (-1, 2)) (rk c) then ckA [(-2, 2), (-1, 2), c] [1] else true) = true := by kernel_rfl
theorem q_1_6 : (rtAll.all fun c => bif Nat.ble (rk (0, 1)) (rk c) then ckA [(-3, 2), (0, 1), c] [1] else true) = true := by kernel_rfl
theorem q_6_6 : (rtAll.all fun c => bif Nat.ble (rk (0, 1)) (rk c) then ckA [(0, 1), (0, 1), c] [1] else true) = true := by kernel_rfl
theorem q_5_7 : (rtAll.all fun c => bif Nat.ble (rk (0, 2)) (rk c) then ckA [(-1, 2), (0, 2), c] [1] else true) = true := by kernel_rfl
theorem q_1_8 : (rtAll.all fun c => bif Nat.ble (rk (1, 1)) (rk c) then ckA [(-3, 2), (1, 1), c] [1] else true) = true := by kernel_rfl
theorem q_4_8 : (rtAll.all fun c => bif Nat.ble (rk (1, 1)) (rk c) then ckA [(-1, 1), (1, 1), c] [1] else true) = true := by kernel_rfl
theorem q2_8 : (rtAll.all fun b => bif Nat.ble (rk (1, 1)) (rk b) then ckA [(1, 1), b] [1] else true) = true := by kernel_rfl
theorem q_7_9 : (rtAll.all fun c => bif Nat.ble (rk (1, 2)) (rk c) then ckA [(0, 2), (1, 2), c] [1] else true) = true := by kernel_rfl
theorem q_1_10 : (rtAll.all fun c => bif Nat.ble (rk (2, 1)) (rk c) then ckA [(-3, 2), (2, 1), c] [1] else true) = true := by kernel_rfl
theorem q_3_10 : (rtAll.all fun c => bif Nat.ble (rk (2, 1)) (rk c) then ckA [(-2, 2), (2, 1), c] [1] else true) = true := by kernel_rfl
theorem q_8_10 : (rtAll.all fun c => bif Nat.ble (rk (2, 1)) (rk c) then ckA [(1, 1), (2, 1), c] [1] else true) = true := by kernel_rfl
theorem q_1_11 : (rtAll.all fun c => bif Nat.ble (rk (2, 2)) (rk c) then ckA [(-3, 2), (2, 2), c] [1] else true) = true := by kernel_rfl
theorem q_6_11 : (rtAll.all fun c => bif Nat.ble (rk (2, 2)) (rk c) then ckA [(0, 1), (2, 2), c] [1] else true) = true := by kernel_rfl
theorem q_11_11 : (rtAll.all fun c => bif Nat.ble (rk (2, 2)) (rk c) then ckA [(2, 2), (2, 2), c] [1] else true) = true := by kernel_rfl
theorem q_5_12 : (rtAll.all fun c => bif Nat.ble (rk (3, 1)) (rk c) then ckA [(-1, 2), (3, 1), c] [1] else true) = true := by kernel_rfl
theorem q_10_12 : (rtAll.all fun c => bif Nat.ble (rk (3, 1)) (rk c) then ckA [(2, 1), (3, 1), c] [1] else true) = true := by kernel_rfl
theorem pm3_2 : (rtAll.all fun b => rtAll.all fun c => pm3 (-2, 1) b c) = true := by kernel_rfl
theorem pm3_7 : (rtAll.all fun b => rtAll.all fun c => pm3 (0, 2) b c) = true := by kernel_rfl
theorem pm3_12 : (rtAll.all fun b => rtAll.all fun c => pm3 (3, 1) b c) = true := by kernel_rfl
theorem q_3_13 : (rtAll.all fun c => bif Nat.ble (rk (3, 2)) (rk c) then ckA [(-2, 2), (3, 2), c] [1] else true) = true := by kernel_rfl
theorem q_8_13 : (rtAll.all fun c => bif Nat.ble (rk (3, 2)) (rk c) then ckA [(1, 1), (3, 2), c] [1] else true) = true := by kernel_rfl
theorem q_13_13 : (rtAll.all fun c => bif Nat.ble (rk (3, 2)) (rk c) then ckA [(3, 2), (3, 2), c] [1] else true) = true := by kernel_rfl
end Go.Proofs.Ytkmompbfcgjgmaa.nt
namespace Go.Proofs.Ytkmompbfcgjgmaa.nt
open Go.GE
set_option linter.unusedVariables false
set_option linter.unusedSimpArgs false
set_option linter.unusedSectionVars false
set_option maxRecDepth 1000000
set_option maxHeartbeats 4000000
theorem q1_all : (rtAll.all fun a => ckA [a] [1]) = true := by kernel_rfl
theorem q2_1 : (rtAll.all fun b => bif Nat.ble (rk (-3, 2)) (rk b) then ckA [(-3, 2), b] [1] else true) = true := by kernel_rfl
theorem q_2_3 : (rtAll.all fun c => bif Nat.ble (rk (-2, 2)) (rk c) then ckA [(-2, 1), (-2, 2), c] [1] else true) = true := by kernel_rfl
theorem q_0_4 : (rtAll.all fun c => bif Nat.ble (rk (-1, 1)) (rk c) then ckA [(-3, 1), (-1, 1), c] [1] else true) = true := by kernel_rfl
theorem q_3_4 : (rtAll.all fun c => bif Nat.ble (rk (-1, 1)) (rk c) then ckA [(-2, 2), (-1, 1), c] [1] else true) = true := by kernel_rfl
theorem q_4_5 : (rtAll.all fun c => bif Nat.ble (rk (-1, 2)) (rk c) then ckA [(-1, 1), (-1, 2), c] [1] else true) = true := by kernel_rfl
theorem q_2_6 : (rtAll.all fun c => bif Nat.ble (rk (0, 1)) (rk c) then ckA [(-2, 1), (0, 1), c] [1] else true) = true := by kernel_rfl
theorem q2_6 : (rtAll.all fun b => bif Nat.ble (rk (0, 1)) (rk b) then ckA [(0, 1), b] [1] else true) = true := by kernel_rfl
theorem q_6_7 : (rtAll.all fun c => bif Nat.ble (rk (0, 2)) (rk c) then ckA [(0, 1), (0, 2), c] [1] else true) = true := by kernel_rfl
theorem q_2_8 : (rtAll.all fun c => bif Nat.ble (rk (1, 1)) (rk c) then ckA [(-2, 1), (1, 1), c] [1] else true) = true := by kernel_rfl
theorem q_5_8 : (rtAll.all fun c => bif Nat.ble (rk (1, 1)) (rk c) then ckA [(-1, 2), (1, 1), c] [1] else true) = true := by kernel_rfl
theorem q_0_9 : (rtAll.all fun c => bif Nat.ble (rk (1, 2)) (rk c) then ckA [(-3, 1), (1, 2), c] [1] else true) = true := by kernel_rfl
theorem q_3_9 : (rtAll.all fun c => bif Nat.ble (rk (1, 2)) (rk c) then ckA [(-2, 2), (1, 2), c] [1] else true) = true := by kernel_rfl
theorem q_8_9 : (rtAll.all fun c => bif Nat.ble (rk (1, 2)) (rk c) then ckA [(1, 1), (1, 2), c] [1] else true) = true := by kernel_rfl
theorem q_4_10 : (rtAll.all fun c => bif Nat.ble (rk (2, 1)) (rk c) then ckA [(-1, 1), (2, 1), c] [1] else true) = true := by kernel_rfl
theorem q_9_10 : (rtAll.all fun c => bif Nat.ble (rk (2, 1)) (rk c) then ckA [(1, 2), (2, 1), c] [1] else true) = true := by kernel_rfl
theorem q_2_11 : (rtAll.all fun c => bif Nat.ble (rk (2, 2)) (rk c) then ckA [(-2, 1), (2, 2), c] [1] else true) = true := by kernel_rfl
theorem q_7_11 : (rtAll.all fun c => bif Nat.ble (rk (2, 2)) (rk c) then ckA [(0, 2), (2, 2), c] [1] else true) = true := by kernel_rfl
theorem q2_11 : (rtAll.all fun b => bif Nat.ble (rk (2, 2)) (rk b) then ckA [(2, 2), b] [1] else true) = true := by kernel_rfl
theorem q_6_12 : (rtAll.all fun c => bif Nat.ble (rk (3, 1)) (rk c) then ckA [(0, 1), (3, 1), c] [1] else true) = true := by kernel_rfl
theorem q_11_12 : (rtAll.all fun c => bif Nat.ble (rk (3, 1)) (rk c) then ckA [(2, 2), (3, 1), c] [1] else true) = true := by kernel_rfl
theorem pm3_3 : (rtAll.all fun b => rtAll.all fun c => pm3 (-2, 2) b c) = true := by kernel_rfl
theorem pm3_8 : (rtAll.all fun b => rtAll.all fun c => pm3 (1, 1) b c) = true := by kernel_rfl
theorem pm3_13 : (rtAll.all fun b => rtAll.all fun c => pm3 (3, 2) b c) = true := by kernel_rfl
theorem q_4_13 : (rtAll.all fun c => bif Nat.ble (rk (3, 2)) (rk c) then ckA [(-1, 1), (3, 2), c] [1] else true) = true := by kernel_rfl
theorem q_9_13 : (rtAll.all fun c => bif Nat.ble (rk (3, 2)) (rk c) then ckA [(1, 2), (3, 2), c] [1] else true) = true := by kernel_rfl
theorem q2_13 : (rtAll.all fun b => bif Nat.ble (rk (3, 2)) (rk b) then ckA [(3, 2), b] [1] else true) = true := by kernel_rfl
end Go.Proofs.Ytkmompbfcgjgmaa.nt
namespace Go.Proofs.Ytkmompbfcgjgmaa.nt
open Go.GE
set_option linter.unusedVariables false
set_option linter.unusedSimpArgs false
set_option linter.unusedSectionVars false
set_option maxRecDepth 1000000
set_option maxHeartbeats 4000000
theorem all_mem {α : Type} {l : List α} {p : α → Bool} (h : l.all p = true) {x : α} (hx : x ∈ l) : p x = true := List.all_eq_true.1 h x hx
def qOf (a b : Int × Int) : Bool := rtAll.all fun c => bif Nat.ble (rk b) (rk c) then ckA [a, b, c] [1] else true
def q2Of (a : Int × Int) : Bool := rtAll.all fun b => bif Nat.ble (rk a) (rk b) then ckA [a, b] [1] else true
def pmOf (a : Int × Int) : Bool := rtAll.all fun b => rtAll.all fun c => pm3 a b c
theorem q_all : ∀ a, a ∈ rtAll → ∀ b, b ∈ rtAll → Nat.ble (rk a) (rk b) = true → qOf a b = true := by
  intro a ha b hb h
  simp only [rtAll, List.mem_cons, List.not_mem_nil, or_false] at ha hb
  rcases ha with rfl | rfl | rfl | rfl | rfl | rfl | rfl | rfl | rfl | rfl | rfl | rfl | rfl | rfl
  · rcases hb with rfl | rfl | rfl | rfl | rfl | rfl | rfl | rfl | rfl | rfl | rfl | rfl | rfl | rfl
    · exact q_0_0
    · exact q_0_1
    · exact q_0_2
    · exact q_0_3
    · exact q_0_4
    · exact q_0_5
    · exact q_0_6
    · exact q_0_7
    · exact q_0_8
    · exact q_0_9
    · exact q_0_10
    · exact q_0_11
    · exact q_0_12
    · exact q_0_13
  · rcases hb with rfl | rfl | rfl | rfl | rfl | rfl | rfl | rfl | rfl | rfl | rfl | rfl | rfl | rfl
    · exact absurd h (by decide)
    · exact q_1_1
    · exact q_1_2
    · exact q_1_3
    · exact q_1_4
    · exact q_1_5
    · exact q_1_6
    · exact q_1_7
    · exact q_1_8
    · exact q_1_9
    · exact q_1_10
    · exact q_1_11
    · exact q_1_12
    · exact q_1_13
  · rcases hb with rfl | rfl | rfl | rfl | rfl | rfl | rfl | rfl | rfl | rfl | rfl | rfl | rfl | rfl
    · exact absurd h (by decide)
    · exact absurd h (by decide)
    · exact q_2_2
    · exact q_2_3
    · exact q_2_4
    · exact q_2_5
    · exact q_2_6
    · exact q_2_7
    · exact q_2_8
    · exact q_2_9
    · exact q_2_10
    · exact q_2_11
    · exact q_2_12
    · exact q_2_13
  · rcases hb with rfl | rfl | rfl | rfl | rfl | rfl | rfl | rfl | rfl | rfl | rfl | rfl | rfl | rfl
    · exact absurd h (by decide)
    · exact absurd h (by decide)
    · exact absurd h (by decide)
    · exact q_3_3
    · exact q_3_4
    · exact q_3_5
    · exact q_3_6
    · exact q_3_7
    · exact q_3_8
    · exact q_3_9
    · exact q_3_10
    · exact q_3_11
    · exact q_3_12
    · exact q_3_13
  · rcases hb with rfl | rfl | rfl | rfl | rfl | rfl | rfl | rfl | rfl | rfl | rfl | rfl | rfl | rfl
    · exact absurd h (by decide)
    · exact absurd h (by decide)
    · exact absurd h (by decide)
    · exact absurd h (by decide)
    · exact q_4_4
    · exact q_4_5
    · exact q_4_6
    · exact q_4_7
    · exact q_4_8
    · exact q_4_9
    · exact q_4_10
    · exact q_4_11
    · exact q_4_12
    · exact q_4_13
  · rcases hb with rfl | rfl | rfl | rfl | rfl | rfl | rfl | rfl | rfl | rfl | rfl | rfl | rfl | rfl
    · exact absurd h (by decide)
    · exact absurd h (by decide)
    · exact absurd h (by decide)
    · exact absurd h (by decide)
    · exact absurd h (by decide)
    · exact q_5_5
    · exact q_5_6
    · exact q_5_7
    · exact q_5_8
    · exact q_5_9
    · exact q_5_10
    · exact q_5_11
    · exact q_5_12
    · exact q_5_13
  · rcases hb with rfl | rfl | rfl | rfl | rfl | rfl | rfl | rfl | rfl | rfl | rfl | rfl | rfl | rfl
    · exact absurd h (by decide)
    · exact absurd h (by decide)
    · exact absurd h (by decide)
    · exact absurd h (by decide)
    · exact absurd h (by decide)
    · exact absurd h (by decide)
    · exact q_6_6
    · exact q_6_7
    · exact q_6_8
    · exact q_6_9
    · exact q_6_10
    · exact q_6_11
    · exact q_6_12
    · exact q_6_13
  · rcases hb with rfl | rfl | rfl | rfl | rfl | rfl | rfl | rfl | rfl | rfl | rfl | rfl | rfl | rfl
    · exact absurd h (by decide)
    · exact absurd h (by decide)
    · exact absurd h (by decide)
    · exact absurd h (by decide)
    · exact absurd h (by decide)
    · exact absurd h (by decide)
    · exact absurd h (by decide)
    · exact q_7_7
    · exact q_7_8
    · exact q_7_9
    · exact q_7_10
    · exact q_7_11
    · exact q_7_12
    · exact q_7_13
  · rcases hb with rfl | rfl | rfl | rfl | rfl | rfl | rfl | rfl | rfl | rfl | rfl | rfl | rfl | rfl
    · exact absurd h (by decide)
    · exact absurd h (by decide)
    · exact absurd h (by decide)
    · exact absurd h (by decide)
    · exact absurd h (by decide)
    · exact absurd h (by decide)
    · exact absurd h (by decide)
    · exact absurd h (by decide)
    · exact q_8_8
    · exact q_8_9
    · exact q_8_10
    · exact q_8_11
    · exact q_8_12
    · exact q_8_13
  · rcases hb with rfl | rfl | rfl | rfl | rfl | rfl | rfl | rfl | rfl | rfl | rfl | rfl | rfl | rfl
    · exact absurd h (by decide)
    · exact absurd h (by decide)
    · exact absurd h (by decide)
    · exact absurd h (by decide)
    · exact absurd h (by decide)
    · exact absurd h (by decide)
    · exact absurd h (by decide)
    · exact absurd h (by decide)
    · exact absurd h (by decide)
    · exact q_9_9
    · exact q_9_10
    · exact q_9_11
    · exact q_9_12
    · exact q_9_13
  · rcases hb with rfl | rfl | rfl | rfl | rfl | rfl | rfl | rfl | rfl | rfl | rfl | rfl | rfl | rfl
    · exact absurd h (by decide)
    · exact absurd h (by decide)
    · exact absurd h (by decide)
    · exact absurd h (by decide)
    · exact absurd h (by decide)
    · exact absurd h (by decide)
    · exact absurd h (by decide)
    · exact absurd h (by decide)
    · exact absurd h (by decide)
    · exact absurd h (by decide)
    · exact q_10_10
    · exact q_10_11
    · exact q_10_12
    · exact q_10_13
  · rcases hb with rfl | rfl | rfl | rfl | rfl | rfl | rfl | rfl | rfl | rfl | rfl | rfl | rfl | rfl
    · exact absurd h (by decide)
    · exact absurd h (by decide)
    · exact absurd h (by decide)
    · exact absurd h (by decide)
    · exact absurd h (by decide)
    · exact absurd h (by decide)
    · exact absurd h (by decide)
    · exact absurd h (by decide)
    · exact absurd h (by decide)
    · exact absurd h (by decide)
    · exact absurd h (by decide)
    · exact q_11_11
    · exact q_11_12
    · exact q_11_13
  · rcases hb with rfl | rfl | rfl | rfl | rfl | rfl | rfl | rfl | rfl | rfl | rfl | rfl | rfl | rfl
    · exact absurd h (by decide)
    · exact absurd h (by decide)
    · exact absurd h (by decide)
    · exact absurd h (by decide)
    · exact absurd h (by decide)
    · exact absurd h (by decide)
    · exact absurd h (by decide)
    · exact absurd h (by decide)
    · exact absurd h (by decide)
    · exact absurd h (by decide)
    · exact absurd h (by decide)
    · exact absurd h (by decide)
    · exact q_12_12
    · exact q_12_13
  · rcases hb with rfl | rfl | rfl | rfl | rfl | rfl | rfl | rfl | rfl | rfl | rfl | rfl | rfl | rfl
    · exact absurd h (by decide)
    · exact absurd h (by decide)
    · exact absurd h (by decide)
    · exact absurd h (by decide)
    · exact absurd h (by decide)
    · exact absurd h (by decide)
    · exact absurd h (by decide)
    · exact absurd h (by decide)
    · exact absurd h (by decide)
    · exact absurd h (by decide)
    · exact absurd h (by decide)
    · exact absurd h (by decide)
    · exact absurd h (by decide)
    · exact q_13_13
theorem q2_all : ∀ a, a ∈ rtAll → q2Of a = true := by
  intro a ha
  simp only [rtAll, List.mem_cons, List.not_mem_nil, or_false] at ha
  rcases ha with rfl | rfl | rfl | rfl | rfl | rfl | rfl | rfl | rfl | rfl | rfl | rfl | rfl | rfl
  · exact q2_0
  · exact q2_1
  · exact q2_2
  · exact q2_3
  · exact q2_4
  · exact q2_5
  · exact q2_6
  · exact q2_7
  · exact q2_8
  · exact q2_9
  · exact q2_10
  · exact q2_11
  · exact q2_12
  · exact q2_13
theorem pm_all : ∀ a, a ∈ rtAll → pmOf a = true := by
  intro a ha
  simp only [rtAll, List.mem_cons, List.not_mem_nil, or_false] at ha
  rcases ha with rfl | rfl | rfl | rfl | rfl | rfl | rfl | rfl | rfl | rfl | rfl | rfl | rfl | rfl
  · exact pm3_0
  · exact pm3_1
  · exact pm3_2
  · exact pm3_3
  · exact pm3_4
  · exact pm3_5
  · exact pm3_6
  · exact pm3_7
  · exact pm3_8
  · exact pm3_9
  · exact pm3_10
  · exact pm3_11
  · exact pm3_12
  · exact pm3_13
theorem ck3 {a b c : Int × Int} (ha : a ∈ rtAll) (hb : b ∈ rtAll) (hc : c ∈ rtAll) (h1 : Nat.ble (rk a) (rk b) = true) (h2 : Nat.ble (rk b) (rk c) = true) : ckA [a, b, c] [1] = true := by
  have := all_mem (q_all a ha b hb h1) hc
  rw [h2, cond_true] at this
  exact this
theorem ck2 {a b : Int × Int} (ha : a ∈ rtAll) (hb : b ∈ rtAll) (h1 : Nat.ble (rk a) (rk b) = true) : ckA [a, b] [1] = true := by
  have := all_mem (q2_all a ha) hb
  rw [h1, cond_true] at this
  exact this
theorem ble_tot {a b : Nat} (h : Nat.ble a b = false) : Nat.ble b a = true := by
  rw [Nat.ble_eq]
  have : ¬ a ≤ b := fun hh => by rw [Nat.ble_eq_true_of_le hh] at h; cases h
  omega
theorem ck_srt3 {a b c : Int × Int} (ha : a ∈ rtAll) (hb : b ∈ rtAll) (hc : c ∈ rtAll) : ckA (srt3 a b c) [1] = true := by
  unfold srt3
  cases h1 : Nat.ble (rk a) (rk b)
  · have h1' := ble_tot h1
    cases h2 : Nat.ble (rk a) (rk c)
    · have h2' := ble_tot h2
      cases h3 : Nat.ble (rk b) (rk c)
      · simp only [cond_false]; exact ck3 hc hb ha (ble_tot h3) h1'
      · simp only [cond_false, cond_true]; exact ck3 hb hc ha h3 h2'
    · simp only [cond_false, cond_true]; exact ck3 hb ha hc h1' h2
  · cases h2 : Nat.ble (rk b) (rk c)
    · have h2' := ble_tot h2
      cases h3 : Nat.ble (rk a) (rk c)
      · simp only [cond_false, cond_true]; exact ck3 hc ha hb (ble_tot h3) h1
      · simp only [cond_false, cond_true]; exact ck3 ha hc hb h3 h2'
    · simp only [cond_true]; exact ck3 ha hb hc h1 h2
theorem ck_srt2 {a b : Int × Int} (ha : a ∈ rtAll) (hb : b ∈ rtAll) : ckA (srt2 a b) [1] = true := by
  unfold srt2
  cases h1 : Nat.ble (rk a) (rk b)
  · simp only [cond_false]; exact ck2 hb ha (ble_tot h1)
  · simp only [cond_true]; exact ck2 ha hb h1
/-- each shape has a list of roots that was checked -/
theorem shape_ck (r0 s0 r1 s1 r2 s2 : Int) (n : Nat) (o : Bool) (g : Int) : ∃ (l : List (Int × Int)) (base : List Int), fldP l base = fldP (shL r0 s0 r1 s1 r2 s2 n o) (shB0 o g) ∧ (shQ r0 s0 r1 s1 r2 s2 n o).map tNr = (fldR l []).map tNr ∧ ckA l base = true := by
  have h0 := rt_mem (shR_ok r0 s0)
  have h1 := rt_mem (shR_ok r1 s1)
  have h2 := rt_mem (shR_ok r2 s2)
  unfold shQ
  cases o
  · have eb : shB0 false g = [1] := rfl
    rw [eb]
    rcases (by omega : n % 3 = 0 ∨ n % 3 = 1 ∨ n % 3 = 2) with hc | hc | hc
    · have e : shL r0 s0 r1 s1 r2 s2 n false = [shR r0 s0] := by unfold shL shC; rw [cond_false, hc]; rfl
      rw [e]
      exact ⟨_, _, rfl, rfl, all_mem q1_all h0⟩
    · have e : shL r0 s0 r1 s1 r2 s2 n false = [shR r0 s0, shR r1 s1] := by unfold shL shC; rw [cond_false, hc]; rfl
      rw [e]
      have := all_mem (all_mem pm2_all h0) h1
      unfold pm2 at this
      rw [Bool.and_eq_true] at this
      exact ⟨_, _, (eqL_eq this.1).symm, eqN_eq this.2, ck_srt2 h0 h1⟩
    · have e : shL r0 s0 r1 s1 r2 s2 n false = [shR r0 s0, shR r1 s1, shR r2 s2] := by unfold shL shC; rw [cond_false, hc]; rfl
      rw [e]
      have := all_mem (all_mem (pm_all _ h0) h1) h2
      unfold pm3 at this
      rw [Bool.and_eq_true] at this
      exact ⟨_, _, (eqL_eq this.1).symm, eqN_eq this.2, ck_srt3 h0 h1 h2⟩
  · have hB := qB_all
    have hC := qC_all
    rw [Bool.and_eq_true] at hB hC
    have hb : ∃ base, shB0 true g = base ∧ ckA [] base = true ∧ ∀ a, a ∈ rtAll → ckA [a] base = true := by
      unfold shB0
      rw [cond_true]
      cases decide (g.tmod 2 = 0)
      · exact ⟨_, rfl, hC.2, fun a ha => all_mem hC.1 ha⟩
      · exact ⟨_, rfl, hB.2, fun a ha => all_mem hB.1 ha⟩
    obtain ⟨base, eb, b0, b1⟩ := hb
    rw [eb]
    rcases (by omega : n % 2 = 0 ∨ n % 2 = 1) with hc | hc
    · have e : shL r0 s0 r1 s1 r2 s2 n true = [] := by unfold shL shC; rw [cond_true, hc]; rfl
      rw [e]
      exact ⟨_, _, rfl, rfl, b0⟩
    · have e : shL r0 s0 r1 s1 r2 s2 n true = [shR r0 s0] := by unfold shL shC; rw [cond_true, hc]; rfl
      rw [e]
      exact ⟨_, _, rfl, rfl, b1 _ h0⟩
theorem tiX_24 (a b : Int) : X24 (tiX a b) := by
  have := tmod_bd (a := a) 33 (by decide)
  unfold X24 tiX
  simp only []
  omega
theorem tie_24 (a b u v : Int) : X24 (tie a b u v).1 ∧ X24 (tie a b u v).2 := by
  unfold tie
  split
  · exact ⟨tiX_24 _ _, tiX_24 _ _⟩
  · exact ⟨tiX_24 _ _, tiX_24 _ _⟩
section
variable (r0 s0 r1 s1 r2 s2 : Int) (n : Nat) (o : Bool) (g : Int) (h8 : I8 r0 ∧ I8 s0 ∧ I8 r1 ∧ I8 s1 ∧ I8 r2 ∧ I8 s2 ∧ I8 g) (hn : n < 256) (a b u v : Int) (h4 : I8 a ∧ I8 b ∧ I8 u ∧ I8 v)
include h8 hn h4
theorem c6w : LL.run 6 [shV r0 s0 r1 s1 r2 s2 n o g, .agg #[bv a, bv b], .agg #[bv u, bv v]] [] = some ⟨.bool true, [], []⟩ := by
  refine c6 r0 s0 r1 s1 r2 s2 n o g h8 hn a b u v h4 fun hok => ?_
  obtain ⟨l, base, hP, hR, hck⟩ := shape_ck r0 s0 r1 s1 r2 s2 n o g
  obtain ⟨x1, x2⟩ := tie_24 a b u v
  exact law_all hP hR shQ_ok hck g hok x1 x2 (tie_ok a b u v).2.2
end
section
open Go.ChangeShapes Go.WideShapes Go.RowKit
variable {H : Type} {enc : TypeId × Value → H} {W : World} {base b0 : Nat} {v : Value} {d : DataW H} {p : List MemPlace}
theorem i8_of {z : Int} (h : (Lit.int .i8 z).wf = true) : I8 z := by have := i8_wf h; unfold I8; omega
theorem open_i2 (hv : Value.okWide Try.prog W .any b0 51 v) (hd : DataW.Trod enc Try.prog W base (fun _ => true) true 51 v d p) : ∃ a b : Int, v = .agg #[bv a, bv b] ∧ I8 a ∧ I8 b := by
  obtain ⟨zs, rfl, hw⟩ := open_array (ks := [.i8, .i8]) (d := 5) Try.underlying51 (by kernel_rfl) hv hd
  have h' : wfs (List.replicate 2 .i8) zs := hw
  match zs, hw.1, h' with
  | [x1, x2], _, h' => exact ⟨x1, x2, rfl, i8_of (wfs_get h' (z := x1) (by simp)), i8_of (wfs_get h' (z := x2) (by simp))⟩
theorem VR_i2 {m : Mp} {a b : Int} : VR m (.agg #[bv a, bv b]) (.agg #[bv a, bv b]) := .agg (.cons (.int _ _) (.cons (.int _ _) .nil))
theorem open_shape (hv : Value.okWide Try.prog W .any b0 54 v) (hd : DataW.Trod enc Try.prog W base (fun _ => true) true 54 v d p) :
    ∃ (r0 s0 r1 s1 r2 s2 : Int) (n : Nat) (o : Bool) (g : Int), v = shV r0 s0 r1 s1 r2 s2 n o g ∧ (I8 r0 ∧ I8 s0 ∧ I8 r1 ∧ I8 s1 ∧ I8 r2 ∧ I8 s2 ∧ I8 g) ∧ n < 256 := by
  simp only [Value.okWide, Try.underlying54] at hv
  obtain ⟨cs, rfl, _, _⟩ := hv
  obtain ⟨fuel, hf⟩ := hd
  obtain ⟨xs, m, _, _, hl, hlen, hx⟩ := DataW.trod_struct Try.underlying54 hf
  have hc : Try.prog.cellsOf 54 = 9 := by kernel_rfl
  rw [hc] at hl
  have hs : xs.length = 4 := hlen
  have h0 : DataW.trod enc Try.prog W base (fun _ => true) true m 52 (((Value.agg cs).cells.toList.drop 0).take (Try.prog.cellsOf 52)) = xs[0]? := hx 0 _ rfl
  have h1 : DataW.trod enc Try.prog W base (fun _ => true) true m 5 (((Value.agg cs).cells.toList.drop 6).take (Try.prog.cellsOf 5)) = xs[1]? := hx 1 _ rfl
  have h2 : DataW.trod enc Try.prog W base (fun _ => true) true m 4 (((Value.agg cs).cells.toList.drop 7).take (Try.prog.cellsOf 4)) = xs[2]? := hx 2 _ rfl
  have h3 : DataW.trod enc Try.prog W base (fun _ => true) true m 50 (((Value.agg cs).cells.toList.drop 8).take (Try.prog.cellsOf 50)) = xs[3]? := hx 3 _ rfl
  rw [List.getElem?_eq_getElem (by omega)] at h0 h1 h2 h3
  have c0 : Try.prog.cellsOf 52 = 6 := by kernel_rfl
  have c1 : Try.prog.cellsOf 5 = 1 := by kernel_rfl
  have c2 : Try.prog.cellsOf 4 = 1 := by kernel_rfl
  have c3 : Try.prog.cellsOf 50 = 1 := by kernel_rfl
  obtain ⟨l, hcs⟩ : ∃ l : List Value, (Value.agg cs).cells.toList = l := ⟨_, rfl⟩
  have hcl : cs.toList = l := hcs
  have hl' : l.length = 9 := by rw [← hcl]; exact hl
  match l, hl', hcl with
  | [x0, x1, x2, x3, x4, x5, x6, x7, x8], _, hcl =>
    have hcs : cs = #[x0, x1, x2, x3, x4, x5, x6, x7, x8] := by cases cs; exact congrArg Array.mk hcl
    subst hcs
    rw [c0] at h0
    rw [c1] at h1
    rw [c2] at h2
    rw [c3] at h3
    obtain ⟨zs, e, hw⟩ := open_flat 5 52 [.i8, .i8, .i8, .i8, .i8, .i8] m _ _ (by kernel_rfl) h0
    obtain ⟨z1, e1, _, w1⟩ := DataW.trod_int Try.underlying5 h1
    obtain ⟨b, e2, _⟩ := DataW.trod_bool Try.underlying4 h2
    obtain ⟨z3, e3, _, w3⟩ := DataW.trod_int Try.underlying50 h3
    obtain ⟨n, rfl, hn⟩ := nat_of (b := 255) (u8_wf w1)
    have h' : wfs (List.replicate 6 .i8) zs := hw
    match zs, hw.1, h', e with
    | [a0, a1, a2, a3, a4, a5], _, h', e =>
      have e : [x0, x1, x2, x3, x4, x5] = [bv a0, bv a1, bv a2, bv a3, bv a4, bv a5] := e
      have g1 : [x6] = [uv n] := e1
      have g2 : [x7] = [.bool b] := e2
      have g3 : [x8] = [bv z3] := e3
      clear e1 e2 e3 h0 h1 h2 h3
      simp only [List.cons.injEq, and_true] at e g1 g2 g3
      obtain ⟨rfl, rfl, rfl, rfl, rfl, rfl⟩ := e
      subst g1 g2 g3
      exact ⟨a0, a1, a2, a3, a4, a5, n, b, z3, rfl, ⟨i8_of (wfs_get h' (by simp)), i8_of (wfs_get h' (by simp)), i8_of (wfs_get h' (by simp)), i8_of (wfs_get h' (by simp)), i8_of (wfs_get h' (by simp)), i8_of (wfs_get h' (by simp)), i8_of w3⟩, by omega⟩
theorem VR_shape {m : Mp} {r0 s0 r1 s1 r2 s2 : Int} {n : Nat} {o : Bool} {g : Int} : VR m (shV r0 s0 r1 s1 r2 s2 n o g) (shV r0 s0 r1 s1 r2 s2 n o g) :=
  .agg (.cons (.int _ _) (.cons (.int _ _) (.cons (.int _ _) (.cons (.int _ _) (.cons (.int _ _) (.cons (.int _ _) (.cons (.int _ _) (.cons (.bool _) (.cons (.int _ _) .nil)))))))))
end
end Go.Proofs.Ytkmompbfcgjgmaa.nt
