/-
  Contracts of functions of the program at the limit evaluator. No condition.
-/
import Derived.Test.YtjimphlkhjmaiaaSBN
import Derived.Lib.Strings
import Derived.Test.YtjimphlkhjmaiaaE40
namespace Go.Proofs.Ytjimphlkhjmaiaa.sw
open Go.GE
set_option linter.unusedVariables false
set_option linter.unusedSimpArgs false
set_option linter.unusedSectionVars false
set_option maxRecDepth 100000
set_option maxHeartbeats 4000000
theorem k14 (h : List Blk) : callH LL 14 [] h = some ⟨.bool true, h, [], []⟩ := callH_plain (L_tab rfl) rfl rfl
abbrev sl (b off n c : Nat) : Value := .slice (some ⟨b, off, none⟩) n c
end Go.Proofs.Ytjimphlkhjmaiaa.sw
namespace Go.Proofs.Ytjimphlkhjmaiaa.sw
open Go.GE
set_option linter.unusedVariables false
set_option linter.unusedSimpArgs false
set_option linter.unusedSectionVars false
set_option maxRecDepth 100000
set_option maxHeartbeats 4000000
abbrev st (l : List UInt8) : Value := .string ⟨l.toArray⟩
theorem bytes_mk (l : List UInt8) : (⟨l.toArray⟩ : ByteArray).toList = l := by rw [Lib.toList_data]
theorem bin_eqls {t : TypeId} {c : Bool} {a b : List UInt8} : binA Try.prog .eql t c (st a) (st b) = some (.bool (decide (a = b))) := by
  simp only [binA, Op.stringOp, bytes_mk, pureOf, pure]
  by_cases h : a = b <;> simp [h]
section
open Go.ChangeShapes Go.WideShapes Go.RowKit
variable {H : Type} {enc : TypeId × Value → H} {W : World} {base b0 : Nat} {v : Value} {d : DataW H} {p : List MemPlace}
theorem i64_wf {z : Int} (h : (Lit.int .i64 z).wf = true) : -9223372036854775808 ≤ z ∧ z < 9223372036854775808 := by
  have := (by simpa [Lit.wf, IntKind.min, IntKind.max, IntKind.signed, IntKind.bits] using h : -9223372036854775808 ≤ z ∧ z ≤ 9223372036854775807)
  omega
theorem open_int64 (hv : Value.okWide Try.prog W .any b0 3 v) (hd : DataW.Trod enc Try.prog W base (fun _ => true) true 3 v d p) : ∃ x : Int, v = iv x ∧ -9223372036854775808 ≤ x ∧ x < 9223372036854775808 := by
  obtain ⟨y, rfl, _, _, h⟩ := open_int (show Try.prog.underlying 3 = some (.int .i64) from by kernel_rfl) hv hd
  exact ⟨y, rfl, i64_wf h⟩
end
end Go.Proofs.Ytjimphlkhjmaiaa.sw
namespace Go.Proofs.Ytjimphlkhjmaiaa.sw
open Go.GE
set_option linter.unusedVariables false
set_option linter.unusedSimpArgs false
set_option linter.unusedSectionVars false
set_option maxRecDepth 100000
set_option maxHeartbeats 4000000
attribute [local simp] runOps_nil runOps_cons runOpsF_nil runOpsF_cons fstS_some fstF_some opStep_eq want_none oStep_true oStep_false fin_pure fin_read fin_alloc fin_write storeB wrN cellV addWr o_move o_assign o_pick o_alloc o_box o_load o_store o_nilCheck o_bin o_un o_extract o_callV o_callB o_callI callV_f callV_y callV_fc o_makeFunc partsA Instr.fill builtin_len builtin_max2 bin_add bin_sub bin_mul bin_quo bin_rem bin_lss bin_leq bin_gtr bin_geq bin_eql bin_neq un_neg un_not bin_shr bin_shl wrap_u64_id opd opds optAll putO nbeq nblt constOk isC ops sub cl cr co bodyOf thenS_normal thenS_ret thenS_exit thenS_goto afterN_normal afterN_ret afterN_exit afterN_goto condS_true condS_false blockS_normal blockS_ret blockS_exit blockS_goto headS normS normK_eq fixS_nil fixS_cons fix1 fixV emptyB keepO_nil keepO_cons roundC_normal roundC_exit roundC_ret roundC_goto sweep_eq sweepD rnm pickR pickW rootsB ptrT renT ptrFn renFn ptrB_flat ptrB_non renB_flat renB_non plainS_some drawS_some fpsOk disj unord range' dropTo enumT undef wrap_i64_id Value.cells mkCells ptrTo scal cellsAt rdN endS_ret resultsA Option.bind_some tupV finish reachN dep ptrL_eq ptrL renL_eq renL ptrV_bool ptrV_int ptrV_string ptrV_nilFunc ptrV_nilIface ptrV_nilPtr ptrV_ptr ptrV_nilSl ptrV_sl ptrV_iface ptrV_agg ptrV_tuple ptrV_func renV_bool renV_int renV_string renV_nilFunc renV_nilIface renV_nilPtr renV_ptr renV_nilSl renV_sl renV_iface renV_agg renV_tuple renV_func gotoS_goto gotoS_normal gotoS_exit gotoS_ret skip_seq sliceE bnd bndHi intOf optOpd keepT_nil keepT_cons keepC_t keepC_f lk_nil lk_cons lkC_t lkC_f has_nil has_cons hasC_t hasC_f rep_nil rep_cons repC_t repC_f put_eq putC_t putC_f mem_nil mem_cons memC_t memC_f idx_nil idx_cons idxC_t idxC_f reach_nil reachP_cons reachQ_t reachQ_f ptrB_dead renB_dead ins_eq
attribute [local simp] n60_1s n60_3s n60_4s n60_2s n60_0s Try.f60 n49_1s n49_3s n49_4s n49_2s n49_0s Try.f49 n27_1s n27_4s n27_7s n27_8s n27_6s n27_9s n27_5s n27_3s n27_11s n27_14s n27_17s n27_20s n27_22s n27_23s n27_21s n27_19s n27_18s n27_15s n27_13s n27_25s n27_26s n27_24s n27_12s n27_10s n27_2s n27_0s Try.f27 n28_1s n28_4s n28_7s n28_8s n28_6s n28_9s n28_5s n28_3s n28_11s n28_12s n28_10s n28_2s n28_0s Try.f28 n29_1s n29_4s n29_7s n29_8s n29_6s n29_9s n29_5s n29_3s n29_11s n29_14s n29_17s n29_20s n29_22s n29_23s n29_21s n29_19s n29_18s n29_15s n29_13s n29_25s n29_26s n29_24s n29_12s n29_10s n29_2s n29_0s Try.f29 n30_1s n30_4s n30_7s n30_8s n30_6s n30_9s n30_5s n30_3s n30_11s n30_14s n30_19s n30_21s n30_22s n30_20s n30_18s n30_26s n30_28s n30_29s n30_27s n30_25s n30_24s n30_30s n30_23s n30_17s n30_16s n30_16g n30_15s n30_13s n30_33s n30_38s n30_40s n30_41s n30_39s n30_37s n30_45s n30_50s n30_52s n30_53s n30_51s n30_49s n30_56s n30_55s n30_57s n30_54s n30_48s n30_47s n30_47g n30_46s n30_44s n30_43s n30_58s n30_42s n30_36s n30_35s n30_35g n30_34s n30_32s n30_60s n30_63s n30_68s n30_70s n30_71s n30_69s n30_67s n30_74s n30_73s n30_75s n30_72s n30_66s n30_65s n30_65g n30_64s n30_62s n30_77s n30_78s n30_76s n30_61s n30_59s n30_31s n30_12s n30_10s n30_2s n30_0s Try.f30 n31_1s n31_4s n31_7s n31_8s n31_6s n31_9s n31_5s n31_3s n31_11s n31_14s n31_18s n31_21s n31_22s n31_20s n31_26s n31_27s n31_25s n31_24s n31_28s n31_23s n31_19s n31_17s n31_16s n31_16g n31_15s n31_13s n31_30s n31_31s n31_29s n31_12s n31_10s n31_2s n31_0s Try.f31 n32_1s n32_4s n32_7s n32_8s n32_6s n32_9s n32_5s n32_3s n32_11s n32_14s n32_19s n32_21s n32_22s n32_20s n32_18s n32_25s n32_24s n32_26s n32_23s n32_17s n32_16s n32_16g n32_15s n32_13s n32_28s n32_29s n32_27s n32_12s n32_10s n32_2s n32_0s Try.f32 n21_1s n21_4s n21_7s n21_8s n21_6s n21_9s n21_5s n21_3s n21_12s n21_17s n21_19s n21_20s n21_18s n21_16s n21_24s n21_27s n21_28s n21_26s n21_29s n21_25s n21_23s n21_22s n21_30s n21_21s n21_15s n21_14s n21_14g n21_13s n21_11s n21_32s n21_33s n21_31s n21_10s n21_2s n21_0s Try.f21 n5_1s n5_3s n5_5s n5_7s n5_9s n5_11s n5_13s n5_15s n5_16s n5_14s n5_12s n5_10s n5_8s n5_6s n5_4s n5_2s n5_0s Try.f5
theorem eqV_int {a b : Int} : eqL (eqV 6) [.int .i64 a] [.int .i64 b] = decide (a = b) := by
  simp [eqL, eqV]
theorem tab_no {n : Int} {f : Nat} (hn : n < 1 ∨ 6 < n) (hf : f = 27 ∨ f = 28 ∨ f = 29 ∨ f = 30) (h : List Blk) : (wk.wtab.keep kpT).run f [iv n] h = none := by
  have h1 : ¬ 1 = n := by omega
  have h2 : ¬ 2 = n := by omega
  have h3 : ¬ 3 = n := by omega
  have h4 : ¬ 4 = n := by omega
  have h5 : ¬ 5 = n := by omega
  have h6 : ¬ 6 = n := by omega
  show (match tabR _ f [iv n] h with | some r => some r | none => _) = none
  rcases hf with rfl | rfl | rfl | rfl <;>
  simp [wk.wtab, wk.tabWd, wk.tabWc, wk.tabWb, sh.tabO, sh.libT, tabR, nbeq, eqV_int, h1, h2, h3, h4, h5, h6, wk.wa_e0, wk.wa_e1, wk.wa_e2, wk.wa_e3, wk.wa_e4, wk.wa_e5, wk.wa_e6, wk.wa_e7, wk.wa_e8, wk.wa_e9, wk.wa_e10, wk.wa_e11, wk.wa_e12, wk.wa_e13, wk.wa_e14, wk.wa_e15, wk.wa_e16, wk.wa_e17, wk.wa_e18, wk.wa_e19, wk.wa_e20, wk.ew, wk.wb_e0, wk.wb_e1, wk.wb_e2, wk.wb_e3, wk.wb_e4, wk.wb_e5, wk.wb_e6, wk.wb_e7, wk.wb_e8, wk.wb_e9, wk.wb_e10, wk.wb_e11, wk.wb_e12, wk.wb_e13, wk.wb_e14, wk.wb_e15, wk.wb_e16, wk.wb_e17, wk.wb_e18, wk.wb_e19, wk.wb_e20, wk.wb_e21, wk.wb_e22, wk.wb_e23, wk.wb_e24, wk.wb_e25, wk.wb_e26, wk.wb_e27, wk.wb_e28, wk.wb_e29, wk.wb_e30, wk.wb_e31, wk.wb_e32, wk.wb_e33, wk.wb_e34, wk.wb_e35, wk.wb_e36, wk.wb_e37, wk.wb_e38, wk.wb_e39, wk.wb_e40, wk.wb_e41, wk.wb_e42, wk.wb_e43, wk.wb_e44, wk.wb_e45, wk.wb_e46, wk.wb_e47, wk.wb_e48, wk.wb_e49, wk.wb_e50, wk.wb_e51, wk.wb_e52, wk.wb_e53, wk.wb_e54, wk.wb_e55, wk.wb_e56, wk.wb_e57, wk.wb_e58, wk.wb_e59, wk.wb_e60, wk.wb_e61, wk.wb_e62, wk.wb_e63, wk.wc_e0, wk.wc_e1, wk.wc_e2, wk.wc_e3, wk.wc_e4, wk.wc_e5, wk.wd_e0, wk.wd_e1, wk.wd_e2, wk.wd_e3, wk.wd_e4, wk.wd_e5, wk.wd_e6, wk.wd_e7, wk.wd_e8, wk.wd_e9, wk.wd_e10, wk.wd_e11]
theorem tab_no31 {n : Int} (hn : n < 1 ∨ 40 < n) (h : List Blk) : (wk.wtab.keep kpT).run 31 [iv n] h = none := by
  have h1 : ¬ 1 = n := by omega
  have h2 : ¬ 2 = n := by omega
  have h3 : ¬ 3 = n := by omega
  have h4 : ¬ 4 = n := by omega
  have h5 : ¬ 5 = n := by omega
  have h6 : ¬ 6 = n := by omega
  have h7 : ¬ 7 = n := by omega
  have h8 : ¬ 8 = n := by omega
  have h9 : ¬ 9 = n := by omega
  show (match tabR _ 31 [iv n] h with | some r => some r | none => _) = none
  simp [wk.wtab, wk.tabWd, wk.tabWc, wk.tabWb, sh.tabO, sh.libT, tabR, nbeq, eqV_int, h1, h2, h3, h4, h5, h6, h7, h8, h9, wk.wa_e0, wk.wa_e1, wk.wa_e2, wk.wa_e3, wk.wa_e4, wk.wa_e5, wk.wa_e6, wk.wa_e7, wk.wa_e8, wk.wa_e9, wk.wa_e10, wk.wa_e11, wk.wa_e12, wk.wa_e13, wk.wa_e14, wk.wa_e15, wk.wa_e16, wk.wa_e17, wk.wa_e18, wk.wa_e19, wk.wa_e20, wk.ew, wk.wb_e0, wk.wb_e1, wk.wb_e2, wk.wb_e3, wk.wb_e4, wk.wb_e5, wk.wb_e6, wk.wb_e7, wk.wb_e8, wk.wb_e9, wk.wb_e10, wk.wb_e11, wk.wb_e12, wk.wb_e13, wk.wb_e14, wk.wb_e15, wk.wb_e16, wk.wb_e17, wk.wb_e18, wk.wb_e19, wk.wb_e20, wk.wb_e21, wk.wb_e22, wk.wb_e23, wk.wb_e24, wk.wb_e25, wk.wb_e26, wk.wb_e27, wk.wb_e28, wk.wb_e29, wk.wb_e30, wk.wb_e31, wk.wb_e32, wk.wb_e33, wk.wb_e34, wk.wb_e35, wk.wb_e36, wk.wb_e37, wk.wb_e38, wk.wb_e39, wk.wb_e40, wk.wb_e41, wk.wb_e42, wk.wb_e43, wk.wb_e44, wk.wb_e45, wk.wb_e46, wk.wb_e47, wk.wb_e48, wk.wb_e49, wk.wb_e50, wk.wb_e51, wk.wb_e52, wk.wb_e53, wk.wb_e54, wk.wb_e55, wk.wb_e56, wk.wb_e57, wk.wb_e58, wk.wb_e59, wk.wb_e60, wk.wb_e61, wk.wb_e62, wk.wb_e63, wk.wc_e0, wk.wc_e1, wk.wc_e2, wk.wc_e3, wk.wc_e4, wk.wc_e5, wk.wd_e0, wk.wd_e1, wk.wd_e2, wk.wd_e3, wk.wd_e4, wk.wd_e5, wk.wd_e6, wk.wd_e7, wk.wd_e8, wk.wd_e9, wk.wd_e10, wk.wd_e11]
theorem e60 (a l u : Int) (h : List Blk) : callH LL 60 [iv a, iv l, iv u] h = some ⟨.bool (decide (l ≤ a) && decide (a ≤ u)), h, [], []⟩ := by
  refine callH_none rfl (fun _ => rfl) (L_run rfl ?_) fun _ => rfl
  rw [run60 _ _ _ (by simp)]
  by_cases h1 : l ≤ a
  · simp (maxSteps := 1000000) (disch := first | omega | decide | assumption | simp [scal]) [want_some q60_3g3, h1]
  · simp (maxSteps := 1000000) (disch := first | omega | decide | assumption | simp [scal]) [want_some q60_3g3, h1]
theorem e49 (a l u : Int) (h : List Blk) : callH LL 49 [iv a, iv l, iv u] h = some ⟨.bool (decide (l ≤ a) && decide (a ≤ u)), h, [], []⟩ := by
  refine callH_none rfl (fun _ => rfl) (L_run rfl ?_) fun _ => rfl
  rw [run49 _ _ _ (by simp)]
  simp (maxSteps := 1000000) (disch := first | omega | decide | assumption | simp [scal]) [e60]
section
variable {n : Int} (hn : n < 1 ∨ 6 < n) (h : List Blk)
include hn
theorem e27 : callH LL 27 [iv n] h = some ⟨.tuple #[sl h.length 0 0 0, iv 1], h ++ [.cells [] 1 true true], [], []⟩ := by
  refine callN_none (v := .tuple #[sl 0 0 0 0, iv 1]) (news := [.cells [] 1 true true]) rfl (fun _ => rfl) (L_run (tab_no hn (.inl rfl) _) ?_) (fun blk hb => by simp at hb; subst hb; exact noIdB_flat) (by simp [renV, dep, optAll, nblt])
  rw [run27 _ _ _ (by simp)]
  by_cases h1 : n < 1
  · simp (maxSteps := 1000000) (disch := first | omega | decide | assumption | simp [scal]) [loadA_eq ia_3, za_26, loadA_eq ia_26, o_indexAddrS es_26, ze_26, o_buildSlice es_26 ze_26 (by decide) ba_26_1, ap_26, builtin_append ni_26, sz_26, want_some q27_4g2, h1]
  · have h2 : 6 < n := by omega
    simp (maxSteps := 1000000) (disch := first | omega | decide | assumption | simp [scal]) [loadA_eq ia_3, za_26, loadA_eq ia_26, o_indexAddrS es_26, ze_26, o_buildSlice es_26 ze_26 (by decide) ba_26_1, ap_26, builtin_append ni_26, sz_26, want_some q27_4g2, h1, h2]
theorem e28 : callH LL 28 [iv n] h = some ⟨.tuple #[sl h.length 0 0 0, iv 1], h ++ [.cells [] 1 true true], [], []⟩ := by
  refine callN_none (v := .tuple #[sl 0 0 0 0, iv 1]) (news := [.cells [] 1 true true]) rfl (fun _ => rfl) (L_run (tab_no hn (.inr (.inl rfl)) _) ?_) (fun blk hb => by simp at hb; subst hb; exact noIdB_flat) (by simp [renV, dep, optAll, nblt])
  have h1 : (decide (1 ≤ n) && decide (n ≤ 6)) = false := by simp; omega
  rw [run28 _ _ _ (by simp)]
  simp (maxSteps := 1000000) (disch := first | omega | decide | assumption | simp [scal]) [e49, h1]
theorem e29 : callH LL 29 [iv n] h = some ⟨.tuple #[.string ⟨#[]⟩, iv 1], h, [], []⟩ := by
  refine callH_none rfl (fun _ => rfl) (L_run (tab_no hn (.inr (.inr (.inl rfl))) _) ?_) fun _ => rfl
  rw [run29 _ _ _ (by simp)]
  by_cases h1 : n < 1
  · simp (maxSteps := 1000000) (disch := first | omega | decide | assumption | simp [scal]) [loadA_eq ia_3, za_73, want_some q29_4g2, h1]
  · have h2 : 6 < n := by omega
    simp (maxSteps := 1000000) (disch := first | omega | decide | assumption | simp [scal]) [loadA_eq ia_3, za_73, want_some q29_4g2, h1, h2]
theorem e30 : callH LL 30 [iv n] h = some ⟨.tuple #[.string ⟨#[]⟩, iv 1], h, [], []⟩ := by
  refine callH_none rfl (fun _ => rfl) (L_run (tab_no hn (.inr (.inr (.inr rfl))) _) ?_) fun _ => rfl
  have h1 : (decide (1 ≤ n) && decide (n ≤ 6)) = false := by simp; omega
  rw [run30 _ _ _ (by simp)]
  simp (maxSteps := 1000000) (disch := first | omega | decide | assumption | simp [scal]) [ap_26, builtin_append ni_26, lenA_sl lk_26, o_indexAddrS es_26, loadA_eq ia_9, sz_9, want_some q30_50g2, e49, h1]
end
section
variable {n : Int} (hn : n < 1 ∨ 40 < n) (h : List Blk)
include hn
theorem e31 : callH LL 31 [iv n] h = some ⟨.tuple #[iv 0, iv 1], h, [], []⟩ := by
  refine callH_none rfl (fun _ => rfl) (L_run (tab_no31 hn _) ?_) fun _ => rfl
  rw [run31 _ _ _ (by simp)]
  by_cases h1 : n < 1
  · simp (maxSteps := 1000000) (disch := first | omega | decide | assumption | simp [scal]) [want_some q31_4g2, h1]
  · have h2 : 40 < n := by omega
    simp (maxSteps := 1000000) (disch := first | omega | decide | assumption | simp [scal]) [want_some q31_4g2, h1, h2]
theorem e32 : callH LL 32 [iv n] h = some ⟨.tuple #[iv 0, iv 1], h, [], []⟩ := by
  refine callH_none rfl (fun _ => rfl) (L_run rfl ?_) fun _ => rfl
  have h1 : (decide (1 ≤ n) && decide (n ≤ 40)) = false := by simp; omega
  rw [run32 _ _ _ (by simp)]
  simp (maxSteps := 1000000) (disch := first | omega | decide | assumption | simp [scal]) [e49, h1]
end
theorem e21 (b1 b2 : Nat) (h : List Blk) (hb1 : h[b1]? = some (.cells [] 1 true true)) (hb2 : h[b2]? = some (.cells [] 1 true true)) (hne : b1 ≠ b2) : callH LL 21 [sl b1 0 0 0, sl b2 0 0 0] h = some ⟨.bool true, h, [b1, b2], []⟩ := by
  refine callH_2 rfl hb1 hb2 hne noIdB_flat noIdB_flat (args' := [sl 0 0 0 0, sl 1 0 0 0]) (by simp [renV, dep, optAll, idx, nbeq, hne]) (L_run rfl ?_) (fun _ => rfl)
  have lp : lpB Try.prog LL ⟨21, 26, 2, none⟩ n21_14 n21_15 ⟨[(0, sl 0 0 0 0), (1, sl 1 0 0 0), (5, iv 0)], [.cells [] 1 true true, .cells [] 1 true true], []⟩ = some (.exit 0, ⟨[], [.cells [] 1 true true, .cells [] 1 true true], []⟩) := by
    rw [lpB_eq]
    simp (maxSteps := 1000000) (disch := first | omega | decide | assumption | simp [scal]) [lenA_sl lk_26, o_indexAddrS es_26, loadA_eq ia_9]
  rw [run21 _ _ _ (by simp)]
  simp (maxSteps := 1000000) (disch := first | omega | decide | assumption | simp [scal]) [lenA_sl lk_26, o_indexAddrS es_26, loadA_eq ia_9, lp]
theorem c5e {n : Int} (hn : n < 1 ∨ 40 < n) : LL.run 5 [iv n] [] = some ⟨.bool true, [], []⟩ := by
  have hn6 : n < 1 ∨ 6 < n := by omega
  refine L_run rfl ?_
  have a27 := e27 hn6 []
  have a28 := fun h => e28 hn6 h
  have a29 := fun h => e29 hn6 h
  have a30 := fun h => e30 hn6 h
  have a31 := fun h => e31 hn h
  have a32 := fun h => e32 hn h
  have a21 := e21 0 1 [.cells [] 1 true true, .cells [] 1 true true] rfl rfl (by decide)
  rw [run5 _ _ _ (by simp)]
  simp (maxSteps := 1000000) (disch := first | omega | decide | assumption | simp [scal]) [want_some q5_15g3, want_some q5_15g8, want_some q5_15g13, want_some q5_15g18, want_some q5_15g23, want_some q5_15g28, k14, bin_eqls, a27, a28, a29, a30, a31, a32, a21]
end Go.Proofs.Ytjimphlkhjmaiaa.sw
namespace Go.Proofs.Ytjimphlkhjmaiaa.sw
open Go.GE
set_option linter.unusedVariables false
set_option linter.unusedSimpArgs false
set_option linter.unusedSectionVars false
set_option maxRecDepth 1000000
set_option maxHeartbeats 4000000
theorem rings_1 : LL.run 5 [.int .i64 1] [] = some ⟨.bool true, [], []⟩ := L_ev (n := 1000000) (by kernel_rfl)
theorem rings_2 : LL.run 5 [.int .i64 2] [] = some ⟨.bool true, [], []⟩ := L_ev (n := 1000000) (by kernel_rfl)
theorem rings_3 : LL.run 5 [.int .i64 3] [] = some ⟨.bool true, [], []⟩ := L_ev (n := 1000000) (by kernel_rfl)
theorem rings_4 : LL.run 5 [.int .i64 4] [] = some ⟨.bool true, [], []⟩ := L_ev (n := 1000000) (by kernel_rfl)
theorem rings_5 : LL.run 5 [.int .i64 5] [] = some ⟨.bool true, [], []⟩ := L_ev (n := 1000000) (by kernel_rfl)
theorem rings_6 : LL.run 5 [.int .i64 6] [] = some ⟨.bool true, [], []⟩ := L_ev (n := 1000000) (by kernel_rfl)
theorem rings_7 : LL.run 5 [.int .i64 7] [] = some ⟨.bool true, [], []⟩ := L_ev (n := 1000000) (by kernel_rfl)
theorem rings_8 : LL.run 5 [.int .i64 8] [] = some ⟨.bool true, [], []⟩ := L_ev (n := 1000000) (by kernel_rfl)
theorem rings_9 : LL.run 5 [.int .i64 9] [] = some ⟨.bool true, [], []⟩ := L_ev (n := 1000000) (by kernel_rfl)
theorem rings_10 : LL.run 5 [.int .i64 10] [] = some ⟨.bool true, [], []⟩ := L_ev (n := 1000000) (by kernel_rfl)
theorem rings_11 : LL.run 5 [.int .i64 11] [] = some ⟨.bool true, [], []⟩ := L_ev (n := 1000000) (by kernel_rfl)
theorem rings_12 : LL.run 5 [.int .i64 12] [] = some ⟨.bool true, [], []⟩ := L_ev (n := 1000000) (by kernel_rfl)
theorem rings_13 : LL.run 5 [.int .i64 13] [] = some ⟨.bool true, [], []⟩ := L_ev (n := 1000000) (by kernel_rfl)
theorem rings_14 : LL.run 5 [.int .i64 14] [] = some ⟨.bool true, [], []⟩ := L_ev (n := 1000000) (by kernel_rfl)
theorem rings_15 : LL.run 5 [.int .i64 15] [] = some ⟨.bool true, [], []⟩ := L_ev (n := 1000000) (by kernel_rfl)
theorem rings_16 : LL.run 5 [.int .i64 16] [] = some ⟨.bool true, [], []⟩ := L_ev (n := 1000000) (by kernel_rfl)
theorem rings_17 : LL.run 5 [.int .i64 17] [] = some ⟨.bool true, [], []⟩ := L_ev (n := 1000000) (by kernel_rfl)
theorem rings_18 : LL.run 5 [.int .i64 18] [] = some ⟨.bool true, [], []⟩ := L_ev (n := 1000000) (by kernel_rfl)
theorem rings_19 : LL.run 5 [.int .i64 19] [] = some ⟨.bool true, [], []⟩ := L_ev (n := 1000000) (by kernel_rfl)
theorem rings_20 : LL.run 5 [.int .i64 20] [] = some ⟨.bool true, [], []⟩ := L_ev (n := 1000000) (by kernel_rfl)
theorem rings_21 : LL.run 5 [.int .i64 21] [] = some ⟨.bool true, [], []⟩ := L_ev (n := 1000000) (by kernel_rfl)
theorem rings_22 : LL.run 5 [.int .i64 22] [] = some ⟨.bool true, [], []⟩ := L_ev (n := 1000000) (by kernel_rfl)
theorem rings_23 : LL.run 5 [.int .i64 23] [] = some ⟨.bool true, [], []⟩ := L_ev (n := 1000000) (by kernel_rfl)
theorem rings_24 : LL.run 5 [.int .i64 24] [] = some ⟨.bool true, [], []⟩ := L_ev (n := 1000000) (by kernel_rfl)
theorem rings_25 : LL.run 5 [.int .i64 25] [] = some ⟨.bool true, [], []⟩ := L_ev (n := 1000000) (by kernel_rfl)
theorem rings_26 : LL.run 5 [.int .i64 26] [] = some ⟨.bool true, [], []⟩ := L_ev (n := 1000000) (by kernel_rfl)
theorem rings_27 : LL.run 5 [.int .i64 27] [] = some ⟨.bool true, [], []⟩ := L_ev (n := 1000000) (by kernel_rfl)
theorem rings_28 : LL.run 5 [.int .i64 28] [] = some ⟨.bool true, [], []⟩ := L_ev (n := 1000000) (by kernel_rfl)
theorem rings_29 : LL.run 5 [.int .i64 29] [] = some ⟨.bool true, [], []⟩ := L_ev (n := 1000000) (by kernel_rfl)
theorem rings_30 : LL.run 5 [.int .i64 30] [] = some ⟨.bool true, [], []⟩ := L_ev (n := 1000000) (by kernel_rfl)
theorem rings_31 : LL.run 5 [.int .i64 31] [] = some ⟨.bool true, [], []⟩ := L_ev (n := 1000000) (by kernel_rfl)
theorem rings_32 : LL.run 5 [.int .i64 32] [] = some ⟨.bool true, [], []⟩ := L_ev (n := 1000000) (by kernel_rfl)
theorem rings_33 : LL.run 5 [.int .i64 33] [] = some ⟨.bool true, [], []⟩ := L_ev (n := 1000000) (by kernel_rfl)
theorem rings_34 : LL.run 5 [.int .i64 34] [] = some ⟨.bool true, [], []⟩ := L_ev (n := 1000000) (by kernel_rfl)
theorem rings_35 : LL.run 5 [.int .i64 35] [] = some ⟨.bool true, [], []⟩ := L_ev (n := 1000000) (by kernel_rfl)
theorem rings_36 : LL.run 5 [.int .i64 36] [] = some ⟨.bool true, [], []⟩ := L_ev (n := 1000000) (by kernel_rfl)
theorem rings_37 : LL.run 5 [.int .i64 37] [] = some ⟨.bool true, [], []⟩ := L_ev (n := 1000000) (by kernel_rfl)
theorem rings_38 : LL.run 5 [.int .i64 38] [] = some ⟨.bool true, [], []⟩ := L_ev (n := 1000000) (by kernel_rfl)
theorem rings_39 : LL.run 5 [.int .i64 39] [] = some ⟨.bool true, [], []⟩ := L_ev (n := 1000000) (by kernel_rfl)
theorem rings_40 : LL.run 5 [.int .i64 40] [] = some ⟨.bool true, [], []⟩ := L_ev (n := 1000000) (by kernel_rfl)
theorem c5 (n : Int) : LL.run 5 [iv n] [] = some ⟨.bool true, [], []⟩ := by
  by_cases hn : n < 1 ∨ 40 < n
  · exact c5e hn
  · obtain ⟨k, rfl⟩ : ∃ k : Nat, n = (k : Int) := ⟨n.toNat, by omega⟩
    have h1 : 1 ≤ k ∧ k ≤ 40 := by omega
    clear hn
    match k, h1 with
    | 1, _ => exact rings_1
    | 2, _ => exact rings_2
    | 3, _ => exact rings_3
    | 4, _ => exact rings_4
    | 5, _ => exact rings_5
    | 6, _ => exact rings_6
    | 7, _ => exact rings_7
    | 8, _ => exact rings_8
    | 9, _ => exact rings_9
    | 10, _ => exact rings_10
    | 11, _ => exact rings_11
    | 12, _ => exact rings_12
    | 13, _ => exact rings_13
    | 14, _ => exact rings_14
    | 15, _ => exact rings_15
    | 16, _ => exact rings_16
    | 17, _ => exact rings_17
    | 18, _ => exact rings_18
    | 19, _ => exact rings_19
    | 20, _ => exact rings_20
    | 21, _ => exact rings_21
    | 22, _ => exact rings_22
    | 23, _ => exact rings_23
    | 24, _ => exact rings_24
    | 25, _ => exact rings_25
    | 26, _ => exact rings_26
    | 27, _ => exact rings_27
    | 28, _ => exact rings_28
    | 29, _ => exact rings_29
    | 30, _ => exact rings_30
    | 31, _ => exact rings_31
    | 32, _ => exact rings_32
    | 33, _ => exact rings_33
    | 34, _ => exact rings_34
    | 35, _ => exact rings_35
    | 36, _ => exact rings_36
    | 37, _ => exact rings_37
    | 38, _ => exact rings_38
    | 39, _ => exact rings_39
    | 40, _ => exact rings_40
    | 0, h => omega
    | k + 41, h => omega
end Go.Proofs.Ytjimphlkhjmaiaa.sw
