/-
  Contracts of functions of the program at the limit evaluator. No condition.
-/
import Derived.Test.YtjimphlkhjmaiaaSAN
import Derived.Test.YtjimphlkhjmaiaaE40
namespace Go.Proofs.Ytjimphlkhjmaiaa.sw
open Go.GE
set_option linter.unusedVariables false
set_option linter.unusedSimpArgs false
set_option linter.unusedSectionVars false
set_option maxRecDepth 100000
set_option maxHeartbeats 4000000
abbrev uv (n : Nat) : Value := .int .u8 (n : Int)
theorem wrap_nn {a : Nat} (h : a < 2 ^ 63) : IntKind.i64.wrap (a : Int) = a := wrap_i64_id (by omega) (by omega)
set_option maxRecDepth 1000000 in
attribute [local simp] runOps_nil runOps_cons runOpsF_nil runOpsF_cons fstS_some fstF_some opStep_eq want_none oStep_true oStep_false fin_pure fin_read fin_alloc fin_write storeB wrN cellV addWr o_move o_assign o_pick o_alloc o_box o_load o_store o_nilCheck o_bin o_un o_extract o_callV o_callB o_callI callV_f callV_y callV_fc o_makeFunc partsA Instr.fill builtin_len builtin_max2 bin_add bin_sub bin_mul bin_quo bin_rem bin_lss bin_leq bin_gtr bin_geq bin_eql bin_neq un_neg un_not bin_shr bin_shl wrap_u64_id opd opds optAll putO nbeq nblt constOk isC ops sub cl cr co bodyOf thenS_normal thenS_ret thenS_exit thenS_goto afterN_normal afterN_ret afterN_exit afterN_goto condS_true condS_false blockS_normal blockS_ret blockS_exit blockS_goto headS normS normK_eq fixS_nil fixS_cons fix1 fixV emptyB keepO_nil keepO_cons roundC_normal roundC_exit roundC_ret roundC_goto sweep_eq sweepD rnm pickR pickW rootsB ptrT renT ptrFn renFn ptrB_flat ptrB_non renB_flat renB_non plainS_some drawS_some fpsOk disj unord range' dropTo enumT undef wrap_i64_id Value.cells mkCells ptrTo scal cellsAt rdN endS_ret resultsA Option.bind_some tupV finish reachN dep ptrL_eq ptrL renL_eq renL ptrV_bool ptrV_int ptrV_string ptrV_nilFunc ptrV_nilIface ptrV_nilPtr ptrV_ptr ptrV_nilSl ptrV_sl ptrV_iface ptrV_agg ptrV_tuple ptrV_func renV_bool renV_int renV_string renV_nilFunc renV_nilIface renV_nilPtr renV_ptr renV_nilSl renV_sl renV_iface renV_agg renV_tuple renV_func gotoS_goto gotoS_normal gotoS_exit gotoS_ret skip_seq sliceE bnd bndHi intOf optOpd keepT_nil keepT_cons keepC_t keepC_f lk_nil lk_cons lkC_t lkC_f has_nil has_cons hasC_t hasC_f rep_nil rep_cons repC_t repC_f put_eq putC_t putC_f mem_nil mem_cons memC_t memC_f idx_nil idx_cons idxC_t idxC_f reach_nil reachP_cons reachQ_t reachQ_f ptrB_dead renB_dead ins_eq
attribute [local simp] n10_1s n10_3s n10_5s n10_8s n10_13s n10_15s n10_16s n10_14s n10_12s n10_20s n10_23s n10_26s n10_27s n10_25s n10_28s n10_24s n10_22s n10_31s n10_35s n10_38s n10_39s n10_37s n10_43s n10_45s n10_48s n10_49s n10_47s n10_50s n10_46s n10_44s n10_42s n10_41s n10_51s n10_40s n10_36s n10_34s n10_33s n10_33g n10_32s n10_30s n10_53s n10_55s n10_56s n10_54s n10_52s n10_29s n10_21s n10_19s n10_18s n10_57s n10_17s n10_11s n10_10s n10_10g n10_9s n10_7s n10_59s n10_60s n10_58s n10_6s n10_4s n10_2s n10_0s Try.f10
theorem bars_run (i : Nat) (hi : i < 6) : LL.run 10 [uv i] [] = some ⟨.bool true, [], []⟩ := by
  match i, hi with
  | 0, _ => exact L_ev (n := 1000000) (by kernel_rfl)
  | 1, _ => exact L_ev (n := 1000000) (by kernel_rfl)
  | 2, _ => exact L_ev (n := 1000000) (by kernel_rfl)
  | 3, _ => exact L_ev (n := 1000000) (by kernel_rfl)
  | 4, _ => exact L_ev (n := 1000000) (by kernel_rfl)
  | 5, _ => exact L_ev (n := 1000000) (by kernel_rfl)
theorem bars_pre (n : Nat) (hn : n < 256) : runB Try.prog LL 10 [uv n] [] = endS Try.prog [.tmp 2] 0 (thenS (blockS 0 (lpB Try.prog LL ⟨10, 78, 0, none⟩ n10_10 n10_11 ⟨[(3, .int .i64 ((n % 6 : Nat) + 1 : Int)), (4, .int .i64 0), (5, .int .i64 1)], [], []⟩) ⟨[(5, .int .i64 1), (4, .int .i64 0), (3, .int .i64 ((n % 6 : Nat) + 1 : Int)), (13, .int .i64 ((n % 6 : Nat) + 1 : Int)), (12, .int .i64 (n % 6 : Nat)), (11, .int .i64 n), (10, uv n), (2, .bool false), (0, uv n)], [], []⟩) (codeB Try.prog LL ⟨10, 78, 0, none⟩ n10_58)) := by
  have ht : Int.tmod (n : Int) 6 = ((n % 6 : Nat) : Int) := rfl
  have w1 := wrap_nn (a := n) (by omega)
  have w2 : IntKind.i64.wrap (1 + ((n % 6 : Nat) : Int)) = ((n % 6 : Nat) + 1 : Int) := by rw [wrap_i64_id (by omega) (by omega)]; omega
  generalize n % 6 = r at *
  rw [run10 _ _ _ (by simp)]
  simp (maxSteps := 1000000) (disch := first | omega | decide | assumption | simp [scal]) [o_convI cv_5_3, lenA_sl lk_26, o_indexAddrS es_26, loadA_eq ia_9, want_some q10_45g4, want_some q10_45g9, want_some q10_45g12, want_some q10_45g22, want_some q10_59g4, -n10_58s, ht, w1, w2]
theorem blockS_len {id : Nat} {r : Res} {st st2 : St} (h : st.σ.length = st2.σ.length) : blockS id r st = blockS id r st2 := by
  unfold blockS
  rw [h]
theorem other10 (a : List Value) (h : List Blk) : (wk.wtab.keep kpT).run 10 a h = none := rfl
theorem c10 (n : Nat) (hn : n < 256) : LL.run 10 [uv n] [] = some ⟨.bool true, [], []⟩ := by
  have h6 : n % 6 < 6 := Nat.mod_lt _ (by decide)
  rw [← bars_run (n % 6) h6, L_run_eq (other10 _ _), L_run_eq (other10 _ _), bars_pre n hn, bars_pre (n % 6) (by omega), Nat.mod_mod]
  refine congrArg (fun x => endS Try.prog [.tmp 2] 0 (thenS x _)) (blockS_len rfl)
end Go.Proofs.Ytjimphlkhjmaiaa.sw
namespace Go.Proofs.Ytjimphlkhjmaiaa.sw
open Go.GE
set_option linter.unusedVariables false
set_option linter.unusedSimpArgs false
set_option linter.unusedSectionVars false
set_option maxRecDepth 100000
set_option maxHeartbeats 4000000
section
open Go.ChangeShapes Go.WideShapes Go.RowKit
variable {H : Type} {enc : TypeId × Value → H} {W : World} {base b0 : Nat} {v : Value} {d : DataW H} {p : List MemPlace}
theorem open_u8 (hv : Value.okWide Try.prog W .any b0 5 v) (hd : DataW.Trod enc Try.prog W base (fun _ => true) true 5 v d p) : ∃ n : Nat, v = uv n ∧ n < 256 := by
  obtain ⟨y, rfl, _, _, h⟩ := open_int (show Try.prog.underlying 5 = some (.int .u8) from by kernel_rfl) hv hd
  obtain ⟨n, rfl, hn⟩ := nat_of (b := 255) (u8_wf h)
  exact ⟨n, rfl, hn⟩
end
end Go.Proofs.Ytjimphlkhjmaiaa.sw
