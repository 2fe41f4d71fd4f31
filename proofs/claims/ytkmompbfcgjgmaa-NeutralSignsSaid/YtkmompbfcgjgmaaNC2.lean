/-
  Contracts of functions of the program at the limit evaluator, continued. No condition.
-/
import Derived.Test.YtkmompbfcgjgmaaNC1
import Derived.Test.YtkmompbfcgjgmaaE40
namespace Go.Proofs.Ytkmompbfcgjgmaa.nt
open Go.GE
set_option linter.unusedVariables false
set_option linter.unusedSimpArgs false
set_option linter.unusedSectionVars false
set_option maxRecDepth 100000
set_option maxHeartbeats 4000000
attribute [local simp] runOps_nil runOps_cons runOpsF_nil runOpsF_cons fstS_some fstF_some opStep_eq want_none oStep_true oStep_false fin_pure fin_read fin_alloc fin_write storeB wrN cellV addWr o_move o_assign o_pick o_alloc o_box o_load o_store o_nilCheck o_bin o_un o_extract o_callV o_callB o_callI callV_f callV_y callV_fc o_makeFunc partsA Instr.fill builtin_len builtin_max2 bin_add bin_sub bin_mul bin_quo bin_rem bin_lss bin_leq bin_gtr bin_geq bin_eql bin_neq un_neg un_not bin_shr bin_shl wrap_u64_id opd opds optAll putO nbeq nblt constOk isC ops sub cl cr co bodyOf thenS_normal thenS_ret thenS_exit thenS_goto afterN_normal afterN_ret afterN_exit afterN_goto condS_true condS_false blockS_normal blockS_ret blockS_exit blockS_goto headS normS normK_eq fixS_nil fixS_cons fix1 fixV emptyB keepO_nil keepO_cons roundC_normal roundC_exit roundC_ret roundC_goto sweep_eq sweepD rnm pickR pickW rootsB ptrT renT ptrFn renFn ptrB_flat ptrB_non renB_flat renB_non plainS_some drawS_some fpsOk disj unord range' dropTo enumT undef wrap_i64_id Value.cells mkCells ptrTo scal cellsAt rdN endS_ret resultsA Option.bind_some tupV finish reachN dep ptrL_eq ptrL renL_eq renL ptrV_bool ptrV_int ptrV_string ptrV_nilFunc ptrV_nilIface ptrV_nilPtr ptrV_ptr ptrV_nilSl ptrV_sl ptrV_iface ptrV_agg ptrV_tuple ptrV_func renV_bool renV_int renV_string renV_nilFunc renV_nilIface renV_nilPtr renV_ptr renV_nilSl renV_sl renV_iface renV_agg renV_tuple renV_func gotoS_goto gotoS_normal gotoS_exit gotoS_ret skip_seq sliceE bnd bndHi intOf optOpd keepT_nil keepT_cons keepC_t keepC_f lk_nil lk_cons lkC_t lkC_f has_nil has_cons hasC_t hasC_f rep_nil rep_cons repC_t repC_f put_eq putC_t putC_f mem_nil mem_cons memC_t memC_f idx_nil idx_cons idxC_t idxC_f reach_nil reachP_cons reachQ_t reachQ_f ptrB_dead renB_dead ins_eq
attribute [local simp] n68_1s n68_3s n68_5s n68_11s n68_13s n68_14s n68_12s n68_10s n68_17s n68_19s n68_21s n68_24s n68_29s n68_31s n68_32s n68_30s n68_28s n68_35s n68_34s n68_36s n68_33s n68_27s n68_26s n68_26g n68_25s n68_23s n68_41s n68_43s n68_44s n68_42s n68_40s n68_46s n68_45s n68_39s n68_38s n68_38g n68_37s n68_22s n68_20s n68_18s n68_16s n68_15s n68_9s n68_8s n68_8g n68_7s n68_48s n68_49s n68_47s n68_6s n68_4s n68_2s n68_0s Try.f68
section
variable (P0 : Blk) {co : List Value} {own : Bool} {o : List Int} (cc : Nat) (ho : PoC co o) (h60 : o.length ≤ 60) (h0 : 0 < o.length) (hx : (lst o).natAbs ≤ 4611686018427387904)
include ho h60 h0
theorem q68s (p q : List Int) (hp60 : p.length ≤ 60) (hle : o.length ≤ p.length) (hB : StB p o q) :
    lpB Try.prog LL ⟨68, 104, 2, none⟩ n68_26 n68_27 ⟨[(8, iv (lead p o)), (9, iv (p.length - o.length : Nat)), (10, iv 0), (0, sl 2 0 p.length p.length), (1, sl 1 0 o.length cc), (6, iv (lst o)), (7, sl 3 0 q.length q.length)],
        [P0, .cells co 1 true own, .cells (zm (tms p (sz o))) 1 true true, zB (stpQ p o q)], []⟩ =
      some (.exit 2, ⟨[(0, sl 2 0 p.length p.length), (1, sl 1 0 o.length cc), (6, iv (lst o)), (7, sl 3 0 q.length q.length)], [P0, .cells co 1 true own, .cells (zm (stp2 p o)) 1 true true, zB (stpQ p o q)], []⟩) := by
  have := q68i P0 (own := own) cc ho h60 (p.length - o.length) p.length q.length (zm (stpQ p o q)) (fun i => p.getD i 0 * sz o) (lst o) (lead p o) (by omega) hp60 hB.blo (hB.bs hle) o.length 0 (by omega)
  rw [mx_stp2 hle, mx_tms] at this
  exact this
include hx
theorem q68r : ∀ (f : Nat) (C q : List Int) (k : Nat), k ≤ C.length → C.length ≤ 60 → k ≤ o.length - 1 + f → k < o.length + q.length → q.length ≤ 60 → ovrB f (C.take k) o q = true →
    ∃ (C' : List Int) (k' : Nat), k' ≤ C'.length ∧ C'.length ≤ 60 ∧ C'.take k' = (ovr f (C.take k) o q).2 ∧ (ovr f (C.take k) o q).1.length = q.length ∧
    lpB Try.prog LL ⟨68, 104, 2, none⟩ n68_8 n68_9 ⟨[(0, sl 2 0 k C.length), (1, sl 1 0 o.length cc), (6, iv (lst o)), (7, sl 3 0 q.length q.length)], [P0, .cells co 1 true own, zB C, zB q], []⟩ =
      some (.exit 0, ⟨[(0, sl 2 0 k' C'.length), (7, sl 3 0 q.length q.length)], [P0, .cells co 1 true own, zB C', zB (ovr f (C.take k) o q).1], []⟩) := by
  intro f
  induction f with
  | zero =>
    intro C q k hk h1 h2 h3 h4 hb
    refine ⟨C, k, hk, h1, rfl, rfl, ?_⟩
    have e1 : ¬ (o.length : Int) ≤ k := by omega
    have e2 : ¬ o.length ≤ k := by omega
    simp only [ovr, zB]
    generalize zm C = CC
    generalize zm q = QQ
    rw [lpB_eq]
    simp (maxSteps := 1000000) (disch := first | omega | decide | assumption | simp [scal]) [lenA_sl lk_22, o_indexAddrS es_22, loadA_eq ia_3, sz_3, o_sliceS sl_22, want_some q68_41g3, e1, e2]
  | succ f ih =>
    intro C q k hk h1 h2 h3 h4 hb
    have hpl : (C.take k).length = k := by rw [List.length_take]; omega
    by_cases hlt : k < o.length
    · have eb : Nat.blt (C.take k).length o.length = true := by rw [hpl, nblt]; simp [hlt]
      refine ⟨C, k, hk, h1, by simp only [ovr, eb, cond_true], by simp only [ovr, eb, cond_true], ?_⟩
      simp only [ovr, eb, cond_true, zB]
      have e1 : ¬ (o.length : Int) ≤ k := by omega
      have e2 : ¬ o.length ≤ k := by omega
      generalize zm C = CC
      generalize zm q = QQ
      rw [lpB_eq]
      simp (maxSteps := 1000000) (disch := first | omega | decide | assumption | simp [scal]) [lenA_sl lk_22, o_indexAddrS es_22, loadA_eq ia_3, sz_3, o_sliceS sl_22, want_some q68_41g3, e1, e2]
    · have eb : Nat.blt (C.take k).length o.length = false := by rw [hpl, nblt]; simp; omega
      simp only [ovrB, eb, cond_false, Bool.and_eq_true] at hb
      have hB := stB_of hb.1
      have hle : o.length ≤ (C.take k).length := by omega
      have hdec := stpP_lt h0 hle
      have e : (stp2 (C.take k) o).take (trmN (stp2 (C.take k) o) k) = stpP (C.take k) o := by unfold stpP; rw [hpl]
      obtain ⟨C', k', r1, r2, r3, r4, r5⟩ := ih (stp2 (C.take k) o) (stpQ (C.take k) o q) (trmN (stp2 (C.take k) o) k) (by rw [stp2_len, hpl]; exact trmN_le _) (by rw [stp2_len, hpl]; omega) (by
        have : (stpP (C.take k) o).length = trmN (stp2 (C.take k) o) k := by unfold stpP; rw [List.length_take, stp2_len, hpl]; have := trmN_le (p := stp2 (C.take k) o) k; omega
        omega) (by
        have := trmN_le (p := stp2 (C.take k) o) k
        have : (stpQ (C.take k) o q).length = q.length := by unfold stpQ; rw [List.length_set, tms_len]
        omega) (by unfold stpQ; rw [List.length_set, tms_len]; exact h4) (by rw [e]; exact hb.2)
      rw [e] at r3 r4 r5
      have ql : (stpQ (C.take k) o q).length = q.length := by unfold stpQ; rw [List.length_set, tms_len]
      rw [ql] at r4 r5
      refine ⟨C', k', r1, r2, by simp only [ovr, eb, cond_false]; exact r3, by simp only [ovr, eb, cond_false]; exact r4, ?_⟩
      simp only [ovr, eb, cond_false]
      generalize (ovr f (stpP (C.take k) o) o (stpQ (C.take k) o q)).1 = Z at *
      rw [stp2_len, hpl] at r5
      have ls := q68s P0 (own := own) cc ho h60 h0 (C.take k) q (by omega) hle hB
      have a66a := r69 2 C.length (p := C.take k) (h := [P0, .cells co 1 true own, zB C, zB q]) rfl (PoC_take PoC_zm) (by omega) (sz o) hB.bp
      have a66b := fun X => r69 3 q.length (p := q) (h := [P0, .cells co 1 true own, zB C, zB q, X]) rfl PoC_zm h4 (sz o) hB.bq
      have lt := q68t P0 (.cells co 1 true own) o.length cc q.length (zm (stpQ (C.take k) o q)) (lst o) (p := stp2 (C.take k) o) PoC_zm k k (by rw [stp2_len]; omega) (Nat.le_refl _) (by omega)
      have wl := hB.bl.w
      have wq := (hB.bk (by omega)).w
      have hql : (tms q (sz o)).length = q.length := tms_len
      have gq := zm_get (L := tms q (sz o)) (i := k - o.length) (by omega)
      have gz : (zm (tms q (sz o))).length = q.length := by rw [zm_len, tms_len]
      have hst : zm (stpQ (C.take k) o q) = (zm (tms q (sz o))).set (k - o.length) (iv ((tms q (sz o)).getD (k - o.length) 0 + lead (C.take k) o)) := by
        unfold stpQ; rw [hpl, zm_set]
      have ll : sg (lst o) * lst (C.take k) = lead (C.take k) o := Int.mul_comm _ _
      have gp := zm_get (L := C) (i := k - 1) (by omega)
      have gp2 : C.getD (k - 1) 0 = lst (C.take k) := by
        unfold lst; rw [hpl, List.getD_eq_getElem?_getD, List.getD_eq_getElem?_getD, List.getElem?_take, if_pos (by omega)]
      rw [gp2] at gp
      have go' := ho (o.length - 1) (by omega)
      rw [hpl] at a66a ls wq
      obtain ⟨d, hd⟩ : ∃ d, k - o.length = d := ⟨_, rfl⟩
      rw [hd] at ls wq gq hst
      obtain ⟨k1, hk1⟩ : ∃ k1, k = k1 + 1 := ⟨k - 1, by omega⟩
      have e1 : (o.length : Int) ≤ k := by omega
      have e2 : o.length ≤ k := by omega
      have e3 : (k : Int) - (o.length : Int) = d := by omega
      have e4 : IntKind.i64.wrap (d : Int) = d := wrap_i64_id (by omega) (by omega)
      have e5 : d < q.length := by omega
      have e5' : (d : Int) < q.length := by omega
      have e6 : (k : Int) - 1 = k1 := by omega
      have e7 : IntKind.i64.wrap (k1 : Int) = k1 := wrap_i64_id (by omega) (by omega)
      have e8 : k1 < k := by omega
      have e8' : (k1 : Int) < k := by omega
      rw [show k - 1 = k1 by omega] at gp
      have gp3 : ∀ (h : k1 < (zm C).length), (zm C)[k1]'h = iv (lst (C.take k)) := fun h => by rw [List.getElem?_eq_getElem h] at gp; exact Option.some.inj gp
      have gq3 : ∀ (h : d < (zm (tms q (sz o))).length), (zm (tms q (sz o)))[d]'h = iv ((tms q (sz o)).getD d 0) := fun h => by rw [List.getElem?_eq_getElem h] at gq; exact Option.some.inj gq
      have w1 : IntKind.i64.wrap (-(lst o)) = -(lst o) := wrap_i64_id (by omega) (by omega)
      have hsz := sz_eq (o := o)
      clear ih hb r1 r2 r3 r4 hB eb hdec hk1 gp2 hx
      simp only [zB, hst] at ls a66a a66b lt r5 ⊢
      generalize (tms q (sz o)).getD d 0 = qd at *
      generalize zm (tms q (sz o)) = TQ at *
      generalize zm (tms (C.take k) (sz o)) = TP at *
      generalize zm (stp2 (C.take k) o) = S2 at *
      generalize trmN (stp2 (C.take k) o) k = k2 at *
      generalize zm C = CC at *
      generalize zm C' = CC2 at *
      generalize zm Z = ZZ at *
      generalize zm q = QQ at *
      generalize lst (C.take k) = x1 at *
      rw [← ll] at wl wq ls r5 lt
      have a63 := fun h => r64 (lst o) h
      by_cases hm : lst o < -(lst o)
      · rw [if_pos hm] at hsz
        rw [hsz] at a66a a66b
        clear hsz ll
        generalize lst o = x2 at *
        rw [lpB_eq]
        simp (maxSteps := 1000000) (disch := first | omega | decide | assumption | simp [scal]) [lenA_sl lk_22, o_indexAddrS es_22, loadA_eq ia_3, sz_3, o_sliceS sl_22, want_some q68_41g3, e1, e2, e3, e4, e5, e5', e6, e7, e8, e8', hm, w1, gp, gp3, a63, a66a, a66b, wl, wq, gq, gq3, gz, ls, lt, r5]
      · rw [if_neg hm] at hsz
        rw [hsz] at a66a a66b
        clear hsz ll
        generalize lst o = x2 at *
        rw [lpB_eq]
        simp (maxSteps := 1000000) (disch := first | omega | decide | assumption | simp [scal]) [lenA_sl lk_22, o_indexAddrS es_22, loadA_eq ia_3, sz_3, o_sliceS sl_22, want_some q68_41g3, e1, e2, e3, e4, e5, e5', e6, e7, e8, e8', hm, w1, gp, gp3, a63, a66a, a66b, wl, wq, gq, gq3, gz, ls, lt, r5]
end
end Go.Proofs.Ytkmompbfcgjgmaa.nt
namespace Go.Proofs.Ytkmompbfcgjgmaa.nt
open Go.GE
set_option linter.unusedVariables false
set_option linter.unusedSimpArgs false
set_option linter.unusedSectionVars false
set_option maxRecDepth 100000
set_option maxHeartbeats 4000000
attribute [local simp] runOps_nil runOps_cons runOpsF_nil runOpsF_cons fstS_some fstF_some opStep_eq want_none oStep_true oStep_false fin_pure fin_read fin_alloc fin_write storeB wrN cellV addWr o_move o_assign o_pick o_alloc o_box o_load o_store o_nilCheck o_bin o_un o_extract o_callV o_callB o_callI callV_f callV_y callV_fc o_makeFunc partsA Instr.fill builtin_len builtin_max2 bin_add bin_sub bin_mul bin_quo bin_rem bin_lss bin_leq bin_gtr bin_geq bin_eql bin_neq un_neg un_not bin_shr bin_shl wrap_u64_id opd opds optAll putO nbeq nblt constOk isC ops sub cl cr co bodyOf thenS_normal thenS_ret thenS_exit thenS_goto afterN_normal afterN_ret afterN_exit afterN_goto condS_true condS_false blockS_normal blockS_ret blockS_exit blockS_goto headS normS normK_eq fixS_nil fixS_cons fix1 fixV emptyB keepO_nil keepO_cons roundC_normal roundC_exit roundC_ret roundC_goto sweep_eq sweepD rnm pickR pickW rootsB ptrT renT ptrFn renFn ptrB_flat ptrB_non renB_flat renB_non plainS_some drawS_some fpsOk disj unord range' dropTo enumT undef wrap_i64_id Value.cells mkCells ptrTo scal cellsAt rdN endS_ret resultsA Option.bind_some tupV finish reachN dep ptrL_eq ptrL renL_eq renL ptrV_bool ptrV_int ptrV_string ptrV_nilFunc ptrV_nilIface ptrV_nilPtr ptrV_ptr ptrV_nilSl ptrV_sl ptrV_iface ptrV_agg ptrV_tuple ptrV_func renV_bool renV_int renV_string renV_nilFunc renV_nilIface renV_nilPtr renV_ptr renV_nilSl renV_sl renV_iface renV_agg renV_tuple renV_func gotoS_goto gotoS_normal gotoS_exit gotoS_ret skip_seq sliceE bnd bndHi intOf optOpd keepT_nil keepT_cons keepC_t keepC_f lk_nil lk_cons lkC_t lkC_f has_nil has_cons hasC_t hasC_f rep_nil rep_cons repC_t repC_f put_eq putC_t putC_f mem_nil mem_cons memC_t memC_f idx_nil idx_cons idxC_t idxC_f reach_nil reachP_cons reachQ_t reachQ_f ptrB_dead renB_dead ins_eq
attribute [local simp] n68_1s n68_3s n68_5s n68_11s n68_13s n68_14s n68_12s n68_10s n68_17s n68_19s n68_21s n68_24s n68_29s n68_31s n68_32s n68_30s n68_28s n68_35s n68_34s n68_36s n68_33s n68_27s n68_26s n68_26g n68_25s n68_23s n68_41s n68_43s n68_44s n68_42s n68_40s n68_46s n68_45s n68_39s n68_38s n68_38g n68_37s n68_22s n68_20s n68_18s n68_16s n68_15s n68_9s n68_8s n68_8g n68_7s n68_48s n68_49s n68_47s n68_6s n68_4s n68_2s n68_0s Try.f68
section
variable (c cc : Nat) {cs co : List Value} {own own2 : Bool} {p o : List Int} (hp : PoC cs p) (ho : PoC co o) (hp60 : p.length ≤ 60) (h0 : 0 < o.length) (hle : o.length ≤ p.length) (hx : (lst o).natAbs ≤ 4611686018427387904) (hB : ovB p o = true)
include hp ho hp60 h0 hle hx hB
theorem q68f : ∃ (C' : List Int) (k' : Nat), k' ≤ C'.length ∧ C'.length ≤ 60 ∧ C'.take k' = (ovF p o).2 ∧ (ovF p o).1.length = p.length - o.length + 1 ∧
    lpB Try.prog LL ⟨68, 104, 2, none⟩ n68_8 n68_9 ⟨[(0, sl 0 0 p.length c), (1, sl 1 0 o.length cc), (6, iv (lst o)), (7, sl 2 0 (p.length - o.length + 1) (p.length - o.length + 1))], [.cells cs 1 true own, .cells co 1 true own2, zB (List.replicate (p.length - o.length + 1) 0)], []⟩ =
      some (.exit 0, ⟨[(0, sl 2 0 k' C'.length), (7, sl 3 0 (p.length - o.length + 1) (p.length - o.length + 1))], [.cells cs 1 true own, .cells co 1 true own2, zB C', zB (ovF p o).1], []⟩) := by
  unfold ovB ovF at hB
  unfold ovF
  obtain ⟨f, hf⟩ : ∃ f, p.length = f + 1 := ⟨p.length - 1, by omega⟩
  obtain ⟨d, hd⟩ : ∃ d, p.length - o.length = d := ⟨_, rfl⟩
  have eb : Nat.blt p.length o.length = false := by rw [nblt]; simp; omega
  rw [hd] at hB ⊢
  rw [show ovrB p.length p o (List.replicate (d + 1) 0) = ovrB (f + 1) p o (List.replicate (d + 1) 0) by rw [hf], show ovr p.length p o (List.replicate (d + 1) 0) = ovr (f + 1) p o (List.replicate (d + 1) 0) by rw [hf]] at hB
  rw [show ovr p.length p o (List.replicate (d + 1) 0) = ovr (f + 1) p o (List.replicate (d + 1) 0) by rw [hf]]
  simp only [ovrB, ovr, eb, cond_false, Bool.and_eq_true] at hB ⊢
  obtain ⟨⟨⟨b1, b2⟩, b3⟩, b4⟩ := hB
  obtain ⟨q, hq⟩ : ∃ q, List.replicate (d + 1) (0 : Int) = q := ⟨_, rfl⟩
  have hql : q.length = d + 1 := by rw [← hq]; simp
  rw [hq] at b1 b2 b3 b4 ⊢
  have hS := stB_of b1
  have hdec := stpP_lt h0 hle
  have e0 : (stp2 p o).take (trmN (stp2 p o) p.length) = stpP p o := by unfold stpP; rfl
  obtain ⟨C', k', r1, r2, r3, r4, r5⟩ := q68r (.cells cs 1 true own) (own := own2) cc ho (by omega) h0 hx f (stp2 p o) (stpQ p o q) (trmN (stp2 p o) p.length) (by rw [stp2_len]; exact trmN_le _) (by rw [stp2_len]; omega) (by
      have : (stpP p o).length = trmN (stp2 p o) p.length := by unfold stpP; rw [List.length_take, stp2_len]; have := trmN_le (p := stp2 p o) p.length; omega
      omega) (by
      have := trmN_le (p := stp2 p o) p.length
      have : (stpQ p o q).length = q.length := by unfold stpQ; rw [List.length_set, tms_len]
      omega) (by unfold stpQ; rw [List.length_set, tms_len]; omega) (by rw [e0]; exact b2)
  rw [e0] at r3 r4 r5
  have ql : (stpQ p o q).length = q.length := by unfold stpQ; rw [List.length_set, tms_len]
  rw [ql, hql] at r4 r5
  refine ⟨C', k', r1, r2, r3, r4, ?_⟩
  generalize (ovr f (stpP p o) o (stpQ p o q)).1 = Z at *
  rw [stp2_len] at r5
  have ls := q68s (.cells cs 1 true own) (own := own2) cc ho (by omega) h0 p q (by omega) hle hS
  have a66a := fun R => r69 0 c (p := p) (h := .cells cs 1 true own :: R) rfl hp (by omega) (sz o) hS.bp
  have a66b := fun X => r69 2 q.length (p := q) (h := [.cells cs 1 true own, .cells co 1 true own2, zB q, X]) rfl PoC_zm (by omega) (sz o) hS.bq
  have lt := q68t (.cells cs 1 true own) (.cells co 1 true own2) o.length cc q.length (zm (stpQ p o q)) (lst o) (p := stp2 p o) PoC_zm p.length p.length (by rw [stp2_len]; omega) (Nat.le_refl _) (by omega)
  have wl := hS.bl.w
  have wq := (hS.bk (by omega)).w
  have hql2 : (tms q (sz o)).length = q.length := tms_len
  have gq := zm_get (L := tms q (sz o)) (i := d) (by omega)
  have gz : (zm (tms q (sz o))).length = d + 1 := by rw [zm_len, tms_len, hql]
  have hst : zm (stpQ p o q) = (zm (tms q (sz o))).set d (iv ((tms q (sz o)).getD d 0 + lead p o)) := by
    unfold stpQ; rw [hd, zm_set]
  have ll : sg (lst o) * lst p = lead p o := Int.mul_comm _ _
  have gp := hp (p.length - 1) (by omega)
  rw [show p.getD (p.length - 1) 0 = lst p from rfl] at gp
  rw [hd] at ls wq
  rw [hql] at ls a66b lt
  obtain ⟨n, hn⟩ : ∃ n, p.length = n := ⟨_, rfl⟩
  obtain ⟨k1, hk1⟩ : ∃ k1, n = k1 + 1 := ⟨n - 1, by omega⟩
  rw [hn] at gp ls a66a lt r5 hle hd ⊢
  rw [show n - 1 = k1 by omega] at gp
  have e1 : (o.length : Int) ≤ n := by omega
  have e2 : o.length ≤ n := hle
  have e3 : (n : Int) - (o.length : Int) = d := by omega
  have e4 : IntKind.i64.wrap (d : Int) = d := wrap_i64_id (by omega) (by omega)
  have e5 : d < d + 1 := by omega
  have e5' : (d : Int) < (d : Int) + 1 := by omega
  have e6 : (n : Int) - 1 = k1 := by omega
  have e7 : IntKind.i64.wrap (k1 : Int) = k1 := wrap_i64_id (by omega) (by omega)
  have e8 : k1 < n := by omega
  have e8' : (k1 : Int) < n := by omega
  have gp3 : ∀ (h : k1 < cs.length), cs[k1]'h = iv (lst p) := fun h => by rw [List.getElem?_eq_getElem h] at gp; exact Option.some.inj gp
  have gq3 : ∀ (h : d < (zm (tms q (sz o))).length), (zm (tms q (sz o)))[d]'h = iv ((tms q (sz o)).getD d 0) := fun h => by rw [List.getElem?_eq_getElem h] at gq; exact Option.some.inj gq
  have w1 : IntKind.i64.wrap (-(lst o)) = -(lst o) := wrap_i64_id (by omega) (by omega)
  have hsz := sz_eq (o := o)
  clear b1 b2 b3 b4 r1 r2 r3 r4 hS eb hdec hq hx hf hn e0 hk1
  simp only [zB, hst] at ls a66a a66b lt r5 ⊢
  generalize (tms q (sz o)).getD d 0 = qd at *
  generalize zm (tms q (sz o)) = TQ at *
  generalize zm (tms p (sz o)) = TP at *
  generalize zm (stp2 p o) = S2 at *
  generalize trmN (stp2 p o) n = k2 at *
  generalize zm C' = CC2 at *
  generalize zm Z = ZZ at *
  generalize zm q = QQ at *
  generalize lst p = x1 at *
  rw [← ll] at wl wq ls r5 lt
  have a63 := fun h => r64 (lst o) h
  by_cases hm : lst o < -(lst o)
  · rw [if_pos hm] at hsz
    rw [hsz] at a66a a66b
    clear hsz ll
    generalize lst o = x2 at *
    rw [lpB_eq]
    simp (maxSteps := 1000000) (disch := first | omega | decide | assumption | simp [scal]) [lenA_sl lk_22, o_indexAddrS es_22, loadA_eq ia_3, sz_3, o_sliceS sl_22, want_some q68_41g3, e1, e2, e3, e4, e5, e5', e6, e7, e8, e8', hm, w1, gp, gp3, a63, a66a, a66b, wl, wq, gq, gq3, gz, ls, lt, r5]
  · rw [if_neg hm] at hsz
    rw [hsz] at a66a a66b
    clear hsz ll
    generalize lst o = x2 at *
    rw [lpB_eq]
    simp (maxSteps := 1000000) (disch := first | omega | decide | assumption | simp [scal]) [lenA_sl lk_22, o_indexAddrS es_22, loadA_eq ia_3, sz_3, o_sliceS sl_22, want_some q68_41g3, e1, e2, e3, e4, e5, e5', e6, e7, e8, e8', hm, w1, gp, gp3, a63, a66a, a66b, wl, wq, gq, gq3, gz, ls, lt, r5]
end
section
variable (b b2 c cc : Nat) {cs co : List Value} {own own2 : Bool} {p o : List Int} {h : List Blk} (hb : h[b]? = some (.cells cs 1 true own)) (hb2 : h[b2]? = some (.cells co 1 true own2)) (hne : b ≠ b2) (hp : PoC cs p) (ho : PoC co o)
include hb hb2 hne hp ho
theorem r68 (hp60 : p.length ≤ 60) (h0 : 0 < o.length) (hle : o.length ≤ p.length) (hB : ovB p o = true) :
    callH LL 68 [sl b 0 p.length c, sl b2 0 o.length cc] h = some ⟨.tuple #[sl h.length 0 (dgP (ovF p o).1) (dgP (ovF p o).1), sl (h.length + 1) 0 (dgP (ovF p o).2) (dgP (ovF p o).2)], h ++ [zB (lea (ovF p o).1), zB (lea (ovF p o).2)], [b, b2], []⟩ := by
  have hne' : ¬ b2 = b := fun e => hne e.symm
  refine callN_2 rfl hb hb2 hne noIdB_flat noIdB_flat (args' := [sl 0 0 p.length c, sl 1 0 o.length cc]) (by simp [renV, dep, optAll, idx, nbeq, hne, hne']) (v := .tuple #[sl 2 0 (dgP (ovF p o).1) (dgP (ovF p o).1), sl 3 0 (dgP (ovF p o).2) (dgP (ovF p o).2)]) (news := [zB (lea (ovF p o).1), zB (lea (ovF p o).2)]) (go (by decide) ?_)
    (by intro blk hb; simp only [List.mem_cons, List.not_mem_nil, or_false] at hb; rcases hb with rfl | rfl <;> exact noIdB_flat) (by simp [renV, dep, optAll])
  have hBB := hB
  unfold ovB at hBB
  simp only [Bool.and_eq_true] at hBB
  obtain ⟨⟨b1, b2'⟩, b3⟩ := hBB
  have ob : allB o = true := by
    obtain ⟨f, hf⟩ : ∃ f, p.length = f + 1 := ⟨p.length - 1, by omega⟩
    have eb : Nat.blt p.length o.length = false := by rw [nblt]; simp; omega
    rw [show ovrB p.length p o (List.replicate (p.length - o.length + 1) 0) = ovrB (f + 1) p o (List.replicate (p.length - o.length + 1) 0) by rw [← hf]] at b1
    simp only [ovrB, eb, cond_false, Bool.and_eq_true] at b1
    have := b1.1
    unfold stpB at this
    simp only [Bool.and_eq_true] at this
    exact this.1.1.1.1.1.1.2
  have hx := allB_get ob (i := o.length - 1) (by omega)
  rw [show o.getD (o.length - 1) 0 = lst o from rfl] at hx
  obtain ⟨C', k', r1, r2, r3, r4, r5⟩ := q68f c cc (own := own) (own2 := own2) hp ho hp60 h0 hle (by omega) hB
  have hkl : (C'.take k').length = k' := by rw [List.length_take]; omega
  have a71a := r72 3 (p.length - o.length + 1) (p := (ovF p o).1) (h := [.cells cs 1 true own, .cells co 1 true own2, zB C', zB (ovF p o).1]) rfl PoC_zm (by omega) (allB_lt b2')
  have a71b := fun X => r72 2 C'.length (p := C'.take k') (h := [.cells cs 1 true own, .cells co 1 true own2, zB C', zB (ovF p o).1, X]) rfl (PoC_take PoC_zm) (by omega) (by rw [r3]; exact allB_lt b3)
  rw [hkl, r3] at a71b
  rw [r4] at a71a
  have go' := ho (o.length - 1) (by omega)
  rw [show o.getD (o.length - 1) 0 = lst o from rfl] at go'
  obtain ⟨d, hd⟩ : ∃ d, p.length - o.length = d := ⟨_, rfl⟩
  rw [hd] at r5
  simp only [zB] at r5
  rw [← zm_rep] at r5
  rw [hd] at a71a
  obtain ⟨m, hm⟩ : ∃ m, o.length = m + 1 := ⟨o.length - 1, by omega⟩
  rw [show o.length - 1 = m by omega] at go'
  have go3 : ∀ (h : m < co.length), co[m]'h = iv (lst o) := fun h => by rw [List.getElem?_eq_getElem h] at go'; exact Option.some.inj go'
  have e1 : (o.length : Int) - 1 = m := by omega
  have e2 : m < o.length := by omega
  have e2' : (m : Int) < o.length := by omega
  have e3 : (p.length : Int) - (o.length : Int) = d := by omega
  have e4 : IntKind.i64.wrap (d : Int) = d := wrap_i64_id (by omega) (by omega)
  have e5 : IntKind.i64.wrap (m : Int) = m := wrap_i64_id (by omega) (by omega)
  have e6 : ¬ (d : Int) + 1 < 0 := by omega
  have e6' : (0 : Int) < (d : Int) + 1 := by omega
  have e7 : (0 : Int) ≤ (d : Int) + 1 := by omega
  have e8 : ((d : Int) + 1).toNat = d + 1 := by omega
  have e9 : ((d : Int) + 1) * 8 ≤ 70368744177664 ∧ (d : Int) + 1 ≤ 70368744177664 := by omega
  obtain ⟨e9, e10⟩ := e9
  simp only [zB, List.append_nil] at a71a a71b r5 ⊢
  generalize dgP (ovF p o).1 = d1 at *
  generalize dgP (ovF p o).2 = d2 at *
  generalize zm (lea (ovF p o).1) = L1 at *
  generalize zm (lea (ovF p o).2) = L2 at *
  generalize zm (ovF p o).1 = F1 at *
  generalize zm C' = CC at *
  clear r1 r2 r3 r4 hB b1 b2' b3 ob hm hd
  generalize lst o = x at *
  rw [run68 _ _ _ (by simp)]
  simp (maxSteps := 1000000) (disch := first | omega | decide | assumption | simp [scal]) [lenA_sl lk_22, o_indexAddrS es_22, loadA_eq ia_3, sz_3, o_sliceS sl_22, want_some q68_41g3, e1, e2, e2', e3, e4, e5, e6, e6', e7, e8, e9, e10, mk22, go', go3, r5, a71a, a71b]
end
end Go.Proofs.Ytkmompbfcgjgmaa.nt
namespace Go.Proofs.Ytkmompbfcgjgmaa.nt
open Go.GE
set_option linter.unusedVariables false
set_option linter.unusedSimpArgs false
set_option linter.unusedSectionVars false
set_option maxRecDepth 100000
set_option maxHeartbeats 4000000
attribute [local simp] runOps_nil runOps_cons runOpsF_nil runOpsF_cons fstS_some fstF_some opStep_eq want_none oStep_true oStep_false fin_pure fin_read fin_alloc fin_write storeB wrN cellV addWr o_move o_assign o_pick o_alloc o_box o_load o_store o_nilCheck o_bin o_un o_extract o_callV o_callB o_callI callV_f callV_y callV_fc o_makeFunc partsA Instr.fill builtin_len builtin_max2 bin_add bin_sub bin_mul bin_quo bin_rem bin_lss bin_leq bin_gtr bin_geq bin_eql bin_neq un_neg un_not bin_shr bin_shl wrap_u64_id opd opds optAll putO nbeq nblt constOk isC ops sub cl cr co bodyOf thenS_normal thenS_ret thenS_exit thenS_goto afterN_normal afterN_ret afterN_exit afterN_goto condS_true condS_false blockS_normal blockS_ret blockS_exit blockS_goto headS normS normK_eq fixS_nil fixS_cons fix1 fixV emptyB keepO_nil keepO_cons roundC_normal roundC_exit roundC_ret roundC_goto sweep_eq sweepD rnm pickR pickW rootsB ptrT renT ptrFn renFn ptrB_flat ptrB_non renB_flat renB_non plainS_some drawS_some fpsOk disj unord range' dropTo enumT undef wrap_i64_id Value.cells mkCells ptrTo scal cellsAt rdN endS_ret resultsA Option.bind_some tupV finish reachN dep ptrL_eq ptrL renL_eq renL ptrV_bool ptrV_int ptrV_string ptrV_nilFunc ptrV_nilIface ptrV_nilPtr ptrV_ptr ptrV_nilSl ptrV_sl ptrV_iface ptrV_agg ptrV_tuple ptrV_func renV_bool renV_int renV_string renV_nilFunc renV_nilIface renV_nilPtr renV_ptr renV_nilSl renV_sl renV_iface renV_agg renV_tuple renV_func gotoS_goto gotoS_normal gotoS_exit gotoS_ret skip_seq sliceE bnd bndHi intOf optOpd keepT_nil keepT_cons keepC_t keepC_f lk_nil lk_cons lkC_t lkC_f has_nil has_cons hasC_t hasC_f rep_nil rep_cons repC_t repC_f put_eq putC_t putC_f mem_nil mem_cons memC_t memC_f idx_nil idx_cons idxC_t idxC_f reach_nil reachP_cons reachQ_t reachQ_f ptrB_dead renB_dead ins_eq
attribute [local simp] n60_1s n60_7s n60_9s n60_10s n60_8s n60_6s n60_13s n60_14s n60_12s n60_11s n60_5s n60_4s n60_4g n60_3s n60_16s n60_17s n60_15s n60_2s n60_0s Try.f60
def cmA : Nat → List Int → List Int → List Int
  | 0, p, _ => p
  | f + 1, p, o => bif Nat.beq o.length 0 then p else cmA f o (lea (ovF p o).2)
theorem cmA_cmn : ∀ (f : Nat) (p o : List Int), cmn f p o = lea (cmA f p o) := by
  intro f
  induction f with
  | zero => intro p o; rfl
  | succ f ih =>
    intro p o
    unfold cmn cmA
    cases Nat.beq o.length 0
    · simp only [cond_false]; exact ih _ _
    · rfl
theorem lea_le {p : List Int} : (lea p).length ≤ p.length := by rw [lea_len]; exact dgP_le
theorem ovr_len {o : List Int} : ∀ (f : Nat) (p q : List Int), (ovr f p o q).2.length ≤ p.length := by
  intro f
  induction f with
  | zero => intro p q; exact Nat.le_refl _
  | succ f ih =>
    intro p q
    unfold ovr
    cases Nat.blt p.length o.length
    · rw [cond_false]
      refine Nat.le_trans (ih _ _) ?_
      unfold stpP
      rw [List.length_take, stp2_len]
      have := trmN_le (p := stp2 p o) p.length
      omega
    · exact Nat.le_refl _
theorem cmA_ok : ∀ (f : Nat) (p o : List Int), cmnB f p o = true → 0 < p.length → p.length ≤ 60 → o.length ≤ 60 → 0 < (cmA f p o).length ∧ (cmA f p o).length ≤ 60 ∧ allB (cmA f p o) = true := by
  intro f
  induction f with
  | zero => intro p o h; cases h
  | succ f ih =>
    intro p o h h0 h1 h2
    unfold cmA
    unfold cmnB at h
    cases e : Nat.beq o.length 0
    · rw [e] at h
      simp only [cond_false, Bool.and_eq_true] at h ⊢
      have he : o.length ≠ 0 := by intro z; rw [nbeq, decide_eq_true z] at e; cases e
      refine ih _ _ h.2 (by omega) h2 (Nat.le_trans lea_le ?_)
      have := ovr_len (o := o) p.length p (List.replicate (p.length - o.length + 1) 0)
      exact Nat.le_trans this h1
    · rw [e] at h
      simp only [cond_true] at h ⊢
      exact ⟨h0, h1, h⟩
theorem c603 (P0 P1 : Blk) : ∀ (f : Nat) (a b : List Int), cmnB f a b = true → a.length ≤ 60 → b.length ≤ 60 →
    lpB Try.prog LL ⟨60, 28, 2, none⟩ n60_4 n60_5 ⟨[(0, sl 2 0 a.length a.length), (1, sl 3 0 b.length b.length)], [P0, P1, zB a, zB b], []⟩ =
      some (.exit 0, ⟨[(0, sl 2 0 (cmA f a b).length (cmA f a b).length)], [P0, P1, zB (cmA f a b)], []⟩) := by
  intro f
  induction f with
  | zero => intro a b h; cases h
  | succ f ih =>
    intro a b h h1 h2
    unfold cmA
    unfold cmnB at h
    by_cases h0 : b.length = 0
    · have e : Nat.beq b.length 0 = true := by rw [h0]; rfl
      rw [e]
      simp only [cond_true, zB]
      rw [h0]
      generalize zm a = A
      generalize zm b = B
      rw [lpB_eq]
      simp (maxSteps := 1000000) (disch := first | omega | decide | assumption | simp [scal]) [lenA_sl lk_22, o_indexAddrS es_22, loadA_eq ia_3]
    · have e : Nat.beq b.length 0 = false := by rw [nbeq]; simp [h0]
      rw [e] at h ⊢
      simp only [cond_false, Bool.and_eq_true] at h ⊢
      obtain ⟨⟨hle, hv⟩, hc⟩ := h
      have hle := Nat.le_of_ble_eq_true hle
      have a68 := r68 2 3 a.length b.length (p := a) (o := b) (h := [P0, P1, zB a, zB b]) rfl rfl (by decide) PoC_zm PoC_zm h1 (by omega) hle hv
      have hl : (lea (ovF a b).2).length ≤ 60 := by
        have := ovr_len (o := b) a.length a (List.replicate (a.length - b.length + 1) 0)
        exact Nat.le_trans lea_le (Nat.le_trans this h1)
      have this := ih b (lea (ovF a b).2) hc h2 hl
      rw [← lea_len, ← lea_len] at a68
      have e1 : 0 < b.length := by omega
      have e2 : (0 : Int) < b.length := by omega
      generalize cmA f b (lea (ovF a b).2) = Z at *
      generalize lea (ovF a b).1 = Q at *
      generalize lea (ovF a b).2 = R at *
      clear ih hc hv
      simp only [zB] at a68 this ⊢
      generalize zm a = A at *
      generalize zm b = B at *
      generalize zm Q = QQ at *
      generalize zm R = RR at *
      rw [lpB_eq]
      simp (maxSteps := 1000000) (disch := first | omega | decide | assumption | simp [scal]) [lenA_sl lk_22, o_indexAddrS es_22, loadA_eq ia_3, e1, e2, a68, this]
section
variable (P0 : Blk) (c cc : Nat) {cs co : List Value} {own own2 : Bool} {p o : List Int} (hp : PoC cs p) (ho : PoC co o)
include ho
theorem c602 (f : Nat) (b : List Int) (h : cmnB f o b = true) (h1 : o.length ≤ 60) (h2 : b.length ≤ 60) :
    ∃ (j cA : Nat) (csA : List Value) (oA : Bool) (tl : List Blk), PoC csA (cmA f o b) ∧
    lpB Try.prog LL ⟨60, 28, 2, none⟩ n60_4 n60_5 ⟨[(0, sl 1 0 o.length cc), (1, sl 2 0 b.length b.length)], [P0, .cells co 1 true own2, zB b], []⟩ =
      some (.exit 0, ⟨[(0, sl j 0 (cmA f o b).length cA)], P0 :: .cells co 1 true own2 :: tl, []⟩) ∧ (P0 :: .cells co 1 true own2 :: tl)[j]? = some (.cells csA 1 true oA) ∧ ((j = 1 ∧ tl = []) ∨ (j = 2 ∧ tl = [.cells csA 1 true oA])) := by
  cases f with
  | zero => cases h
  | succ f =>
    unfold cmA
    unfold cmnB at h
    by_cases h0 : b.length = 0
    · have e : Nat.beq b.length 0 = true := by rw [h0]; rfl
      rw [e]
      simp only [cond_true, zB]
      refine ⟨1, cc, co, own2, [], ho, ?_, rfl, .inl ⟨rfl, rfl⟩⟩
      rw [h0]
      generalize zm b = B
      rw [lpB_eq]
      simp (maxSteps := 1000000) (disch := first | omega | decide | assumption | simp [scal]) [lenA_sl lk_22, o_indexAddrS es_22, loadA_eq ia_3]
    · have e : Nat.beq b.length 0 = false := by rw [nbeq]; simp [h0]
      rw [e] at h ⊢
      simp only [cond_false, Bool.and_eq_true] at h ⊢
      obtain ⟨⟨hle, hv⟩, hc⟩ := h
      have hle := Nat.le_of_ble_eq_true hle
      have a68 := r68 1 2 cc b.length (p := o) (o := b) (h := [P0, .cells co 1 true own2, zB b]) rfl rfl (by decide) ho PoC_zm h1 (by omega) hle hv
      have hl : (lea (ovF o b).2).length ≤ 60 := by
        have := ovr_len (o := b) o.length o (List.replicate (o.length - b.length + 1) 0)
        exact Nat.le_trans lea_le (Nat.le_trans this h1)
      have this := c603 P0 (.cells co 1 true own2) f b (lea (ovF o b).2) hc h2 hl
      rw [← lea_len, ← lea_len] at a68
      have e1 : 0 < b.length := by omega
      have e2 : (0 : Int) < b.length := by omega
      refine ⟨2, (cmA f b (lea (ovF o b).2)).length, zm (cmA f b (lea (ovF o b).2)), true, [zB (cmA f b (lea (ovF o b).2))], PoC_zm, ?_, rfl, .inr ⟨rfl, rfl⟩⟩
      generalize cmA f b (lea (ovF o b).2) = Z at *
      generalize lea (ovF o b).1 = Q at *
      generalize lea (ovF o b).2 = R at *
      clear hc hv
      simp only [zB] at a68 this ⊢
      generalize zm b = B at *
      generalize zm Q = QQ at *
      generalize zm R = RR at *
      rw [lpB_eq]
      simp (maxSteps := 1000000) (disch := first | omega | decide | assumption | simp [scal]) [lenA_sl lk_22, o_indexAddrS es_22, loadA_eq ia_3, e1, e2, a68, this]
end
section
variable (c cc : Nat) {cs co : List Value} {own own2 : Bool} {p o : List Int} (hp : PoC cs p) (ho : PoC co o)
include hp ho
theorem c601 (f : Nat) (h : cmnB (f + 1) p o = true) (h0 : 0 < o.length) (h1 : p.length ≤ 60) (h2 : o.length ≤ 60) :
    ∃ (j cA : Nat) (csA : List Value) (oA : Bool) (tl : List Blk), PoC csA (cmA (f + 1) p o) ∧
    lpB Try.prog LL ⟨60, 28, 2, none⟩ n60_4 n60_5 ⟨[(0, sl 0 0 p.length c), (1, sl 1 0 o.length cc)], [.cells cs 1 true own, .cells co 1 true own2], []⟩ =
      some (.exit 0, ⟨[(0, sl j 0 (cmA (f + 1) p o).length cA)], .cells cs 1 true own :: .cells co 1 true own2 :: tl, []⟩) ∧ ((.cells cs 1 true own :: .cells co 1 true own2 :: tl : List Blk))[j]? = some (.cells csA 1 true oA) ∧ ((j = 1 ∧ tl = []) ∨ (j = 2 ∧ tl = [.cells csA 1 true oA])) := by
  unfold cmA
  unfold cmnB at h
  have e : Nat.beq o.length 0 = false := by rw [nbeq]; simp; intro z; rw [z] at h0; simp at h0
  rw [e] at h ⊢
  simp only [cond_false, Bool.and_eq_true] at h ⊢
  obtain ⟨⟨hle, hv⟩, hc⟩ := h
  have hle := Nat.le_of_ble_eq_true hle
  have a68 := r68 0 1 c cc (p := p) (o := o) (h := [.cells cs 1 true own, .cells co 1 true own2]) rfl rfl (by decide) hp ho h1 h0 hle hv
  have hl : (lea (ovF p o).2).length ≤ 60 := by
    have := ovr_len (o := o) p.length p (List.replicate (p.length - o.length + 1) 0)
    exact Nat.le_trans lea_le (Nat.le_trans this h1)
  obtain ⟨j, cA, csA, oA, tl, i1, i2, i3, i4⟩ := c602 (.cells cs 1 true own) cc (own2 := own2) ho f (lea (ovF p o).2) hc h2 hl
  refine ⟨j, cA, csA, oA, tl, i1, ?_, i3, i4⟩
  rw [← lea_len, ← lea_len] at a68
  have e1 : 0 < o.length := h0
  have e2 : (0 : Int) < o.length := by omega
  clear i1 i3 i4 hc hv hl
  generalize cmA f o (lea (ovF p o).2) = Z at *
  generalize lea (ovF p o).1 = Q at *
  generalize lea (ovF p o).2 = R at *
  simp only [zB] at a68 i2 ⊢
  generalize zm Q = QQ at *
  generalize zm R = RR at *
  rw [lpB_eq]
  simp (maxSteps := 1000000) (disch := first | omega | decide | assumption | simp [scal]) [lenA_sl lk_22, o_indexAddrS es_22, loadA_eq ia_3, e1, e2, a68, i2]
end
end Go.Proofs.Ytkmompbfcgjgmaa.nt
namespace Go.Proofs.Ytkmompbfcgjgmaa.nt
open Go.GE
set_option linter.unusedVariables false
set_option linter.unusedSimpArgs false
set_option linter.unusedSectionVars false
set_option maxRecDepth 100000
set_option maxHeartbeats 4000000
attribute [local simp] runOps_nil runOps_cons runOpsF_nil runOpsF_cons fstS_some fstF_some opStep_eq want_none oStep_true oStep_false fin_pure fin_read fin_alloc fin_write storeB wrN cellV addWr o_move o_assign o_pick o_alloc o_box o_load o_store o_nilCheck o_bin o_un o_extract o_callV o_callB o_callI callV_f callV_y callV_fc o_makeFunc partsA Instr.fill builtin_len builtin_max2 bin_add bin_sub bin_mul bin_quo bin_rem bin_lss bin_leq bin_gtr bin_geq bin_eql bin_neq un_neg un_not bin_shr bin_shl wrap_u64_id opd opds optAll putO nbeq nblt constOk isC ops sub cl cr co bodyOf thenS_normal thenS_ret thenS_exit thenS_goto afterN_normal afterN_ret afterN_exit afterN_goto condS_true condS_false blockS_normal blockS_ret blockS_exit blockS_goto headS normS normK_eq fixS_nil fixS_cons fix1 fixV emptyB keepO_nil keepO_cons roundC_normal roundC_exit roundC_ret roundC_goto sweep_eq sweepD rnm pickR pickW rootsB ptrT renT ptrFn renFn ptrB_flat ptrB_non renB_flat renB_non plainS_some drawS_some fpsOk disj unord range' dropTo enumT undef wrap_i64_id Value.cells mkCells ptrTo scal cellsAt rdN endS_ret resultsA Option.bind_some tupV finish reachN dep ptrL_eq ptrL renL_eq renL ptrV_bool ptrV_int ptrV_string ptrV_nilFunc ptrV_nilIface ptrV_nilPtr ptrV_ptr ptrV_nilSl ptrV_sl ptrV_iface ptrV_agg ptrV_tuple ptrV_func renV_bool renV_int renV_string renV_nilFunc renV_nilIface renV_nilPtr renV_ptr renV_nilSl renV_sl renV_iface renV_agg renV_tuple renV_func gotoS_goto gotoS_normal gotoS_exit gotoS_ret skip_seq sliceE bnd bndHi intOf optOpd keepT_nil keepT_cons keepC_t keepC_f lk_nil lk_cons lkC_t lkC_f has_nil has_cons hasC_t hasC_f rep_nil rep_cons repC_t repC_f put_eq putC_t putC_f mem_nil mem_cons memC_t memC_f idx_nil idx_cons idxC_t idxC_f reach_nil reachP_cons reachQ_t reachQ_f ptrB_dead renB_dead ins_eq
attribute [local simp] n60_1s n60_7s n60_9s n60_10s n60_8s n60_6s n60_13s n60_14s n60_12s n60_11s n60_5s n60_4s n60_4g n60_3s n60_16s n60_17s n60_15s n60_2s n60_0s Try.f60
theorem eq_gd {L M : List Int} (hl : L.length = M.length) (h : ∀ i, L.getD i 0 = M.getD i 0) : L = M := by
  apply List.ext_getElem?
  intro i
  by_cases c : i < L.length
  · have := h i
    rw [List.getD_eq_getElem?_getD, List.getD_eq_getElem?_getD, List.getElem?_eq_getElem c, List.getElem?_eq_getElem (by omega)] at this
    rw [List.getElem?_eq_getElem c, List.getElem?_eq_getElem (by omega)]
    exact congrArg some this
  · rw [List.getElem?_eq_none (by omega), List.getElem?_eq_none (by omega)]
theorem allB_neg {L : List Int} : allB (tms L (-1)) = allB L := by
  unfold allB
  rw [Bool.eq_iff_iff, List.all_eq_true, List.all_eq_true]
  constructor
  · intro h x hx
    obtain ⟨i, hi, rfl⟩ := List.getElem_of_mem hx
    have := h ((tms L (-1)).getD i 0) (getD_mem (by rw [tms_len]; exact hi))
    rw [tms_gd, List.getD_eq_getElem?_getD, List.getElem?_eq_getElem hi] at this
    simpa using this
  · intro h x hx
    obtain ⟨i, hi, rfl⟩ := List.getElem_of_mem hx
    have e : (tms L (-1))[i] = (tms L (-1)).getD i 0 := by rw [List.getD_eq_getElem?_getD, List.getElem?_eq_getElem hi]; rfl
    have := h (L.getD i 0) (getD_mem (by rw [tms_len] at hi; exact hi))
    rw [e, tms_gd]
    simpa using this
theorem sg_ng {x : Int} : sg (x * -1) = sg x * -1 := by
  rw [Int.mul_neg_one, Int.mul_neg_one]
  unfold sg
  split <;> split <;> (try split) <;> omega
theorem sz_ng {o : List Int} : sz (tms o (-1)) = sz o := by
  unfold sz; rw [lst_tms, Int.mul_neg_one, Int.natAbs_neg]
theorem lead_ng {p o : List Int} : lead p (tms o (-1)) = lead p o * -1 := by
  unfold lead; rw [lst_tms, sg_ng, Int.mul_assoc]
theorem stp2_ng {p o : List Int} : stp2 p (tms o (-1)) = stp2 p o := by
  unfold stp2
  rw [tms_len, sz_ng, lead_ng]
  refine List.map_congr_left fun i _ => ?_
  rw [tms_gd, show lead p o * -1 * (o.getD (i - (p.length - o.length)) 0 * -1) = lead p o * o.getD (i - (p.length - o.length)) 0 by grind]
theorem stpP_ng {p o : List Int} : stpP p (tms o (-1)) = stpP p o := by unfold stpP; rw [stp2_ng]
theorem set_gd {L : List Int} {k i : Nat} {x : Int} : (L.set k x).getD i 0 = if k = i ∧ k < L.length then x else L.getD i 0 := by
  rw [List.getD_eq_getElem?_getD, List.getElem?_set, List.getD_eq_getElem?_getD]
  by_cases c : k = i
  · subst c
    by_cases d : k < L.length
    · rw [if_pos rfl, if_pos d, if_pos ⟨rfl, d⟩]; rfl
    · rw [if_pos rfl, if_neg d, if_neg (fun h => d h.2), List.getElem?_eq_none (by omega)]
  · rw [if_neg c, if_neg (fun h => c h.1)]
theorem stpQ_ng {p o q : List Int} : stpQ p (tms o (-1)) (tms q (-1)) = tms (stpQ p o q) (-1) := by
  unfold stpQ
  rw [tms_len, sz_ng, lead_ng]
  have e : tms (tms q (-1)) (sz o) = tms (tms q (sz o)) (-1) := by rw [tms_tms, tms_tms, Int.mul_comm]
  rw [e, tms_gd]
  refine eq_gd (by rw [List.length_set, tms_len, tms_len, tms_len, List.length_set, tms_len]) fun i => ?_
  rw [set_gd, tms_gd (p := List.set _ _ _), set_gd, tms_gd (p := tms q (sz o)) (m := -1), tms_len]
  split
  · grind
  · rfl
theorem tms_nz {p : List Int} {a : Int} : tms (tms p (-1)) a = tms (tms p a) (-1) := by rw [tms_tms, tms_tms, Int.mul_comm]
theorem stpB_ng {p o q : List Int} : stpB p (tms o (-1)) (tms q (-1)) = stpB p o q := by
  unfold stpB
  rw [stpQ_ng, stp2_ng, sz_ng, lead_ng, allB_neg, allB_neg, tms_nz, allB_neg, tms_tms, show (-1 : Int) * (lead p o * -1) = lead p o by omega, Int.mul_neg_one, Int.natAbs_neg]
theorem ovr_ng {o : List Int} : ∀ (f : Nat) (p q : List Int), ovr f p (tms o (-1)) (tms q (-1)) = (tms (ovr f p o q).1 (-1), (ovr f p o q).2) ∧ ovrB f p (tms o (-1)) (tms q (-1)) = ovrB f p o q := by
  intro f
  induction f with
  | zero => intro p q; exact ⟨rfl, rfl⟩
  | succ f ih =>
    intro p q
    unfold ovr ovrB
    rw [tms_len, stpP_ng, stpQ_ng, stpB_ng]
    obtain ⟨i1, i2⟩ := ih (stpP p o) (stpQ p o q)
    rw [i1, i2]
    cases Nat.blt p.length o.length <;> exact ⟨rfl, rfl⟩
theorem ovF_ng {p o : List Int} : ovF p (tms o (-1)) = (tms (ovF p o).1 (-1), (ovF p o).2) ∧ ovB p (tms o (-1)) = ovB p o := by
  have hz : ∀ n, tms (List.replicate n 0) (-1) = List.replicate n 0 := fun n => eq_gd (by rw [tms_len]) fun i => by
    rw [tms_gd]
    have : (List.replicate n (0 : Int)).getD i 0 = 0 := by rw [List.getD_eq_getElem?_getD, List.getElem?_replicate]; split <;> rfl
    rw [this]; rfl
  obtain ⟨i1, i2⟩ := ovr_ng (o := o) p.length p (List.replicate (p.length - o.length + 1) 0)
  rw [hz] at i1 i2
  have e : ovF p (tms o (-1)) = (tms (ovF p o).1 (-1), (ovF p o).2) := by unfold ovF; rw [tms_len]; exact i1
  refine ⟨e, ?_⟩
  unfold ovB
  rw [e, tms_len, i2, allB_neg]
theorem ov_sg {p o : List Int} {s : Int} (hs : s = 1 ∨ s = -1) : ovB p (tms o s) = ovB p o ∧ cnr (ovF p (tms o s)).1 = cnr (ovF p o).1 := by
  rcases hs with rfl | rfl
  · rw [tms_one]; exact ⟨rfl, rfl⟩
  · rw [ovF_ng.1, ovF_ng.2]
    exact ⟨rfl, cnr_sg (.inr rfl)⟩
theorem lea_lst {p : List Int} : lea p = [] ∨ lst (lea p) ≠ 0 := by
  by_cases h : (lea p).length = 0
  · exact .inl (List.length_eq_zero_iff.1 h)
  · right
    have e : dgP (lea p) = (lea p).length := by rw [lea_pro.symm.dg, lea_len]
    rcases (dgP_spec (p := lea p)).2 with z | z
    · omega
    · rw [e] at z; exact z
theorem cmA_lst : ∀ (f : Nat) (p o : List Int), lst p ≠ 0 → (o = [] ∨ lst o ≠ 0) → lst (cmA f p o) ≠ 0 := by
  intro f
  induction f with
  | zero => intro p o h _; exact h
  | succ f ih =>
    intro p o h h2
    unfold cmA
    rcases h2 with rfl | h2
    · exact h
    · have e : Nat.beq o.length 0 = false := by
        rw [nbeq, decide_eq_false]
        intro z
        rw [List.length_eq_zero_iff.1 z] at h2
        exact h2 rfl
      rw [e, cond_false]
      exact ih _ _ h2 lea_lst
theorem slp_lst {p : List Int} (h2 : 2 ≤ p.length) (h : lst p ≠ 0) : lst (slp p) ≠ 0 := by
  unfold lst
  rw [slp_len]
  have : (slp p).getD (p.length - 1 - 1) 0 = p.getD (p.length - 1 - 1 + 1) 0 * (((p.length - 1 - 1 : Nat) : Int) + 1) := by
    simp [slp, List.getD_eq_getElem?_getD, show p.length - 1 - 1 < p.length - 1 by omega]
  rw [this, show p.length - 1 - 1 + 1 = p.length - 1 by omega]
  intro z
  rcases Int.mul_eq_zero.1 z with z | z
  · exact h z
  · omega
section
variable (b b2 c cc : Nat) {cs co : List Value} {own own2 : Bool} {p o : List Int} {h : List Blk} (hb : h[b]? = some (.cells cs 1 true own)) (hb2 : h[b2]? = some (.cells co 1 true own2)) (hne : b ≠ b2) (hp : PoC cs p) (ho : PoC co o)
include hb hb2 hne hp ho
theorem r60 (hp60 : p.length ≤ 60) (ho60 : o.length ≤ 60) (h0 : 0 < o.length) (hp0 : 0 < p.length) (hB : cmnB 5 p o = true) :
    callH LL 60 [sl b 0 p.length c, sl b2 0 o.length cc] h = some ⟨sl h.length 0 (cmn 5 p o).length (cmn 5 p o).length, h ++ [zB (tms (cmn 5 p o) (sg (lst (cmA 5 p o))))], [b, b2], []⟩ := by
  have hne' : ¬ b2 = b := fun e => hne e.symm
  refine callN_2 rfl hb hb2 hne noIdB_flat noIdB_flat (args' := [sl 0 0 p.length c, sl 1 0 o.length cc]) (by simp [renV, dep, optAll, idx, nbeq, hne, hne']) (v := sl 2 0 (cmn 5 p o).length (cmn 5 p o).length) (news := [zB (tms (cmn 5 p o) (sg (lst (cmA 5 p o))))]) (go (by decide) ?_)
    (by intro blk hb; simp only [List.mem_singleton] at hb; subst hb; exact noIdB_flat) (by simp [renV, dep])
  rw [cmA_cmn]
  obtain ⟨k1, k2, k3⟩ := cmA_ok 5 p o hB hp0 hp60 ho60
  obtain ⟨j, cA, csA, oA, tl, i1, i2, i3, i4⟩ := c601 c cc (own := own) (own2 := own2) hp ho 4 hB h0 hp60 ho60
  generalize cmA (4 + 1) p o = A at *
  have a72 := r72 j cA (p := A) i3 i1 k2 (allB_lt k3)
  have hla : (lea A).length ≤ 60 := Nat.le_trans lea_le k2
  have hsm : ∀ i, i < (lea A).length → Sm ((lea A).getD i 0 * sg (lst A)) := fun i hi => by
    have b1 : ((lea A).getD i 0).natAbs ≤ 4611686018427387904 := by
      rw [lea_gd, Int.natAbs_tdiv]
      refine Nat.le_trans (Nat.div_le_self _ _) ?_
      by_cases hi2 : i < A.length
      · have := allB_get k3 hi2; omega
      · rw [getD_big (by omega)]; exact Nat.zero_le _
    have b2 := mulAB b1 (sg_abs (z := lst A))
    unfold Sm; omega
  have a69 := fun (H : List Blk) (j2 : Nat) (hj : H[j2]? = some (.cells (zm (lea A)) 1 true true)) => r69 j2 (dgP A) (p := lea A) (h := H) hj PoC_zm hla (sg (lst A)) hsm
  have gA := i1 (A.length - 1) (by omega)
  rw [show A.getD (A.length - 1) 0 = lst A from rfl] at gA
  obtain ⟨m, hm⟩ : ∃ m, A.length = m + 1 := ⟨A.length - 1, by omega⟩
  rw [show A.length - 1 = m by omega] at gA
  have gA3 : ∀ (h : m < csA.length), csA[m]'h = iv (lst A) := fun h => by rw [List.getElem?_eq_getElem h] at gA; exact Option.some.inj gA
  have e1 : (A.length : Int) - 1 = m := by omega
  have e2 : m < A.length := by omega
  have e2' : (m : Int) < A.length := by omega
  have e3 : IntKind.i64.wrap (m : Int) = m := wrap_i64_id (by omega) (by omega)
  have a64 := fun h => r64 (lst A) h
  rcases i4 with ⟨rfl, rfl⟩ | ⟨rfl, rfl⟩
  · have i3 : some (Blk.cells co 1 true own2) = some (.cells csA 1 true oA) := i3
    have i3 := Option.some.inj i3
    rw [i3] at i2 a72 ⊢
    have a69 := a69 [.cells cs 1 true own, .cells csA 1 true oA, zB (lea A)] 2 rfl
    rw [lea_len] at a69 ⊢
    clear hB i1 i3 k1 k2 k3 hla hsm hm
    simp only [zB] at a69 a72 i2 ⊢
    generalize zm (lea A) = L1 at *
    generalize zm (tms (lea A) (sg (lst A))) = L2 at *
    generalize dgP A = dA at *
    generalize A.length = lA at *
    generalize lst A = x at *
    rw [run60 _ _ _ (by simp)]
    simp (maxSteps := 1000000) (disch := first | omega | decide | assumption | simp [scal]) [lenA_sl lk_22, o_indexAddrS es_22, loadA_eq ia_3, i2, a72, a69, a64, gA, gA3, e1, e2, e2', e3]
  · have a69 := a69 [.cells cs 1 true own, .cells co 1 true own2, .cells csA 1 true oA, zB (lea A)] 3 rfl
    rw [lea_len] at a69 ⊢
    clear hB i1 i3 k1 k2 k3 hla hsm hm
    simp only [zB] at a69 a72 i2 ⊢
    generalize zm (lea A) = L1 at *
    generalize zm (tms (lea A) (sg (lst A))) = L2 at *
    generalize dgP A = dA at *
    generalize A.length = lA at *
    generalize lst A = x at *
    rw [run60 _ _ _ (by simp)]
    simp (maxSteps := 1000000) (disch := first | omega | decide | assumption | simp [scal]) [lenA_sl lk_22, o_indexAddrS es_22, loadA_eq ia_3, i2, a72, a69, a64, gA, gA3, e1, e2, e2', e3]
end
end Go.Proofs.Ytkmompbfcgjgmaa.nt
namespace Go.Proofs.Ytkmompbfcgjgmaa.nt
open Go.GE
set_option linter.unusedVariables false
set_option linter.unusedSimpArgs false
set_option linter.unusedSectionVars false
set_option maxRecDepth 100000
set_option maxHeartbeats 4000000
attribute [local simp] runOps_nil runOps_cons runOpsF_nil runOpsF_cons fstS_some fstF_some opStep_eq want_none oStep_true oStep_false fin_pure fin_read fin_alloc fin_write storeB wrN cellV addWr o_move o_assign o_pick o_alloc o_box o_load o_store o_nilCheck o_bin o_un o_extract o_callV o_callB o_callI callV_f callV_y callV_fc o_makeFunc partsA Instr.fill builtin_len builtin_max2 bin_add bin_sub bin_mul bin_quo bin_rem bin_lss bin_leq bin_gtr bin_geq bin_eql bin_neq un_neg un_not bin_shr bin_shl wrap_u64_id opd opds optAll putO nbeq nblt constOk isC ops sub cl cr co bodyOf thenS_normal thenS_ret thenS_exit thenS_goto afterN_normal afterN_ret afterN_exit afterN_goto condS_true condS_false blockS_normal blockS_ret blockS_exit blockS_goto headS normS normK_eq fixS_nil fixS_cons fix1 fixV emptyB keepO_nil keepO_cons roundC_normal roundC_exit roundC_ret roundC_goto sweep_eq sweepD rnm pickR pickW rootsB ptrT renT ptrFn renFn ptrB_flat ptrB_non renB_flat renB_non plainS_some drawS_some fpsOk disj unord range' dropTo enumT undef wrap_i64_id Value.cells mkCells ptrTo scal cellsAt rdN endS_ret resultsA Option.bind_some tupV finish reachN dep ptrL_eq ptrL renL_eq renL ptrV_bool ptrV_int ptrV_string ptrV_nilFunc ptrV_nilIface ptrV_nilPtr ptrV_ptr ptrV_nilSl ptrV_sl ptrV_iface ptrV_agg ptrV_tuple ptrV_func renV_bool renV_int renV_string renV_nilFunc renV_nilIface renV_nilPtr renV_ptr renV_nilSl renV_sl renV_iface renV_agg renV_tuple renV_func gotoS_goto gotoS_normal gotoS_exit gotoS_ret skip_seq sliceE bnd bndHi intOf optOpd keepT_nil keepT_cons keepC_t keepC_f lk_nil lk_cons lkC_t lkC_f has_nil has_cons hasC_t hasC_f rep_nil rep_cons repC_t repC_f put_eq putC_t putC_f mem_nil mem_cons memC_t memC_f idx_nil idx_cons idxC_t idxC_f reach_nil reachP_cons reachQ_t reachQ_f ptrB_dead renB_dead ins_eq
attribute [local simp] n42_1s n42_3s n42_5s n42_6s n42_4s n42_2s n42_0s Try.f42 n44_1s n44_3s n44_5s n44_11s n44_13s n44_14s n44_12s n44_10s n44_17s n44_18s n44_16s n44_15s n44_9s n44_8s n44_8g n44_7s n44_20s n44_21s n44_19s n44_6s n44_4s n44_2s n44_0s Try.f44
section
variable (b c : Nat) {cs : List Value} {own : Bool} {p : List Int} {h : List Blk} (hb : h[b]? = some (.cells cs 1 true own)) (hp : PoC cs p)
include hb hp
theorem r42 (hB : corB p = true) (hl : lst p ≠ 0) : callH LL 42 [sl b 0 p.length c] h = some ⟨sl h.length 0 (cor p).length (cor p).length, h ++ [zB (cor p)], [b], []⟩ := by
  refine callN_1 rfl hb noIdB_flat (args' := [sl 0 0 p.length c]) (by simp [renV, dep, optAll, idx, nbeq]) (v := sl 1 0 (cor p).length (cor p).length) (news := [zB (cor p)]) (go (by decide) ?_) (by intro blk hb; simp only [List.mem_singleton] at hb; subst hb; exact noIdB_flat) (by simp [renV, dep])
  unfold corB at hB
  simp only [Bool.and_eq_true] at hB
  obtain ⟨⟨⟨⟨⟨⟨⟨⟨⟨⟨c1, c2⟩, c3⟩, c4⟩, c5⟩, c6⟩, c7⟩, c8⟩, c9⟩, c10⟩, c11⟩ := hB
  have c1 := Nat.le_of_ble_eq_true c1
  have c2 := Nat.le_of_ble_eq_true c2
  have c6 := Nat.le_of_ble_eq_true c6
  have c7 := Nat.le_of_ble_eq_true c7
  have c9 := Nat.le_of_ble_eq_true c9
  have c10 := Nat.le_of_ble_eq_true c10
  have hA := cmA_lst 5 p (slp p) hl (.inr (slp_lst c1 hl))
  have hs := sg_pm hA
  have a55 := r55 0 c (p := p) (h := [.cells cs 1 true own]) rfl hp (by omega) c2 (sm_slp c4)
  have a60 := r60 0 1 c (p.length - 1) (p := p) (o := slp p) (h := [.cells cs 1 true own, zB (slp p)]) rfl rfl (by decide) hp PoC_zm c2 (by rw [slp_len]; omega) (by rw [slp_len]; omega) (by omega) c5
  rw [show cmn 5 p (slp p) = corG p from rfl] at a60
  obtain ⟨v1, v2⟩ := ov_sg (p := p) (o := corG p) hs
  rw [← v1] at c8
  rw [← cor_cnr] at v2
  have gl : (tms (corG p) (sg (lst (cmA 5 p (slp p))))).length = (corG p).length := tms_len
  have a68 := r68 0 2 c (corG p).length (p := p) (o := tms (corG p) (sg (lst (cmA 5 p (slp p))))) (h := [.cells cs 1 true own, zB (slp p), zB (tms (corG p) (sg (lst (cmA 5 p (slp p)))))]) rfl rfl (by decide) hp PoC_zm c2 (by omega) (by omega) c8
  rw [gl] at a68
  rw [slp_len] at a60
  generalize tms (corG p) (sg (lst (cmA 5 p (slp p)))) = G at *
  have hQ : cor p = tms (lea (ovF p G).1) (sg (lst (lea (ovF p G).1))) := v2.symm
  have hQl : (cor p).length = (lea (ovF p G).1).length := by rw [hQ, tms_len]
  have hQ2 : (cor p).length = (corQ p).length := by unfold cor; rw [tms_len]
  rw [← lea_len, ← lea_len] at a68
  rw [hQl] at hQ2 ⊢
  rw [hQ] at c11 ⊢
  generalize lea (ovF p G).1 = L at *
  generalize lea (ovF p G).2 = R at *
  have a69 := r69 3 L.length (p := L) (h := [.cells cs 1 true own, zB (slp p), zB G, zB L, zB R]) rfl PoC_zm (by omega) (sg (lst L)) (fun i hi => by
    have := allB_get c11 (i := i) (by rw [tms_len]; exact hi)
    rw [tms_gd] at this
    unfold Sm; omega)
  have gL := zm_get (L := L) (i := L.length - 1) (by omega)
  rw [show L.getD (L.length - 1) 0 = lst L from rfl] at gL
  obtain ⟨m, hm⟩ : ∃ m, L.length = m + 1 := ⟨L.length - 1, by omega⟩
  rw [show L.length - 1 = m by omega] at gL
  have gL3 : ∀ (h : m < (zm L).length), (zm L)[m]'h = iv (lst L) := fun h => by rw [List.getElem?_eq_getElem h] at gL; exact Option.some.inj gL
  have e1 : (L.length : Int) - 1 = m := by omega
  have e2 : m < L.length := by omega
  have e2' : (m : Int) < L.length := by omega
  have e3 : IntKind.i64.wrap (m : Int) = m := wrap_i64_id (by omega) (by omega)
  have zl := zm_len (L := L)
  have a64 := fun h => r64 (lst L) h
  clear c3 c4 c5 c8 c11 v1 v2 hQ hA hs hl hm hQl hQ2 gl c9 c10
  simp only [zB] at a55 a60 a68 a69 ⊢
  generalize zm (slp p) = S1 at *
  generalize zm G = S2 at *
  generalize zm R = S4 at *
  generalize zm (tms L (sg (lst L))) = S5 at *
  generalize zm L = S3 at *
  generalize lst L = x at *
  generalize p.length - 1 = n1 at *
  rw [run42 _ _ _ (by simp)]
  simp (maxSteps := 1000000) (disch := first | omega | decide | assumption | simp [scal]) [lenA_sl lk_22, o_indexAddrS es_22, loadA_eq ia_3, a55, a60, a68, a69, a64, gL, gL3, e1, e2, e2', e3, zl]
end
section
variable {cs : List Value} {own : Bool} (q1 q2 : List Int)
theorem l44e_2 (h1 : q2.length = 1) : lpB Try.prog LL ⟨44, 44, 1, none⟩ n44_8 n44_9 ⟨[(4, sl 1 0 2 2)], [.cells cs 1 true own, .cells [sl 2 0 q1.length q1.length, sl 3 0 q2.length q2.length] 1 false true, zB q1, zB q2], []⟩ = some (.exit 0, ⟨[(4, sl 1 0 2 2)], [.cells cs 1 true own, .cells [sl 2 0 q1.length q1.length, sl 3 0 q2.length q2.length] 1 false true, zB q1, zB q2], []⟩) := by
  simp only [zB, h1]
  rw [lpB_eq]
  simp (maxSteps := 1000000) (disch := first | omega | decide | assumption | simp [scal]) [o_indexAddrS es_31, ze_31, o_buildSlice es_31 ze_31 (by decide) ba_31_2, lenA_sl lk_31, loadA_eq ia_22, lenA_sl lk_22, o_buildSlice es_31 ze_31 (by decide) ba_31_1, ap_31, builtin_append ni_31]
theorem l44s_2 (hB : nxtB q1 q2 = true) : lpB Try.prog LL ⟨44, 44, 1, none⟩ n44_8 n44_9 ⟨[(4, sl 1 0 2 2)], [.cells cs 1 true own, .cells [sl 2 0 q1.length q1.length, sl 3 0 q2.length q2.length] 1 false true, zB q1, zB q2], []⟩ = lpB Try.prog LL ⟨44, 44, 1, none⟩ n44_8 n44_9 ⟨[(4, sl 1 0 3 3)], [.cells cs 1 true own, .cells [sl 2 0 q1.length q1.length, sl 3 0 q2.length q2.length, sl 4 0 (nxt q1 q2).length (nxt q1 q2).length] 1 false true, zB q1, zB q2, zB (nxt q1 q2)], []⟩ := by
  obtain ⟨c1', c2, c3, c4, c5, c6, c7⟩ := nxt_ok hB
  have a68 := r68 2 3 q1.length q2.length (p := q1) (o := q2) (h := [.cells cs 1 true own, .cells [sl 2 0 q1.length q1.length, sl 3 0 q2.length q2.length] 1 false true, zB q1, zB q2]) rfl rfl (by decide) PoC_zm PoC_zm c3 (by omega) c2 c4
  have a69 := r69 5 (dgP (ovF q1 q2).2) (p := lea (ovF q1 q2).2) (h := [.cells cs 1 true own, .cells [sl 2 0 q1.length q1.length, sl 3 0 q2.length q2.length] 1 false true, zB q1, zB q2, zB (lea (ovF q1 q2).1), zB (lea (ovF q1 q2).2)]) rfl PoC_zm (by unfold nxt at c7; rw [tms_len] at c7; exact c7) (-1) (sm_tms c5)
  rw [show tms (lea (ovF q1 q2).2) (-1) = nxt q1 q2 from rfl] at a69
  have el : (lea (ovF q1 q2).2).length = dgP (ovF q1 q2).2 := lea_len
  have e2 : (nxt q1 q2).length = dgP (ovF q1 q2).2 := by rw [← el]; unfold nxt; rw [tms_len]
  have e3 : 1 < q2.length := by omega
  have e3' : (1 : Int) < q2.length := by omega
  rw [el] at a69
  rw [e2]
  have ag := fun hp rd q => app_g (h := hp) (b := 1) (c := 2) (l := 2) (V := [sl 2 0 q1.length q1.length, sl 3 0 q2.length q2.length]) (v := sl q 0 (dgP (ovF q1 q2).2) (dgP (ovF q1 q2).2)) (fl := false) (rd := rd) rfl (by omega) rfl
  clear hB c4 c5
  simp only [zB, List.length_cons, List.length_nil, Nat.reduceAdd, List.cons_append, List.nil_append] at a68 a69 ag ⊢
  generalize dgP (ovF q1 q2).1 = d1 at *
  generalize dgP (ovF q1 q2).2 = d2 at *
  generalize zm (lea (ovF q1 q2).1) = L1 at *
  generalize zm (lea (ovF q1 q2).2) = L2 at *
  generalize zm (nxt q1 q2) = L3 at *
  generalize zm q1 = M1 at *
  generalize zm q2 = M2 at *
  generalize hX : lpB Try.prog LL ⟨44, 44, 1, none⟩ n44_8 n44_9 ⟨[(4, sl 1 0 3 3)], _, []⟩ = X
  rw [lpB_eq]
  simp (maxSteps := 1000000) (disch := first | omega | decide | assumption | simp [scal]) [o_indexAddrS es_31, ze_31, o_buildSlice es_31 ze_31 (by decide) ba_31_2, lenA_sl lk_31, loadA_eq ia_22, lenA_sl lk_22, o_buildSlice es_31 ze_31 (by decide) ba_31_1, ap_31, builtin_append ni_31, e3, e3', a68, a69, append_some ap_31, srcCells, ag, hX]
end
section
variable {cs : List Value} {own : Bool} (q1 q2 q3 : List Int)
theorem l44e_3 (h1 : q3.length = 1) : lpB Try.prog LL ⟨44, 44, 1, none⟩ n44_8 n44_9 ⟨[(4, sl 1 0 3 3)], [.cells cs 1 true own, .cells [sl 2 0 q1.length q1.length, sl 3 0 q2.length q2.length, sl 4 0 q3.length q3.length] 1 false true, zB q1, zB q2, zB q3], []⟩ = some (.exit 0, ⟨[(4, sl 1 0 3 3)], [.cells cs 1 true own, .cells [sl 2 0 q1.length q1.length, sl 3 0 q2.length q2.length, sl 4 0 q3.length q3.length] 1 false true, zB q1, zB q2, zB q3], []⟩) := by
  simp only [zB, h1]
  rw [lpB_eq]
  simp (maxSteps := 1000000) (disch := first | omega | decide | assumption | simp [scal]) [o_indexAddrS es_31, ze_31, o_buildSlice es_31 ze_31 (by decide) ba_31_2, lenA_sl lk_31, loadA_eq ia_22, lenA_sl lk_22, o_buildSlice es_31 ze_31 (by decide) ba_31_1, ap_31, builtin_append ni_31]
theorem l44s_3 (hB : nxtB q2 q3 = true) : lpB Try.prog LL ⟨44, 44, 1, none⟩ n44_8 n44_9 ⟨[(4, sl 1 0 3 3)], [.cells cs 1 true own, .cells [sl 2 0 q1.length q1.length, sl 3 0 q2.length q2.length, sl 4 0 q3.length q3.length] 1 false true, zB q1, zB q2, zB q3], []⟩ = lpB Try.prog LL ⟨44, 44, 1, none⟩ n44_8 n44_9 ⟨[(4, sl 1 0 4 4)], [.cells cs 1 true own, .cells [sl 2 0 q1.length q1.length, sl 3 0 q2.length q2.length, sl 4 0 q3.length q3.length, sl 5 0 (nxt q2 q3).length (nxt q2 q3).length] 1 false true, zB q1, zB q2, zB q3, zB (nxt q2 q3)], []⟩ := by
  obtain ⟨c1', c2, c3, c4, c5, c6, c7⟩ := nxt_ok hB
  have a68 := r68 3 4 q2.length q3.length (p := q2) (o := q3) (h := [.cells cs 1 true own, .cells [sl 2 0 q1.length q1.length, sl 3 0 q2.length q2.length, sl 4 0 q3.length q3.length] 1 false true, zB q1, zB q2, zB q3]) rfl rfl (by decide) PoC_zm PoC_zm c3 (by omega) c2 c4
  have a69 := r69 6 (dgP (ovF q2 q3).2) (p := lea (ovF q2 q3).2) (h := [.cells cs 1 true own, .cells [sl 2 0 q1.length q1.length, sl 3 0 q2.length q2.length, sl 4 0 q3.length q3.length] 1 false true, zB q1, zB q2, zB q3, zB (lea (ovF q2 q3).1), zB (lea (ovF q2 q3).2)]) rfl PoC_zm (by unfold nxt at c7; rw [tms_len] at c7; exact c7) (-1) (sm_tms c5)
  rw [show tms (lea (ovF q2 q3).2) (-1) = nxt q2 q3 from rfl] at a69
  have el : (lea (ovF q2 q3).2).length = dgP (ovF q2 q3).2 := lea_len
  have e2 : (nxt q2 q3).length = dgP (ovF q2 q3).2 := by rw [← el]; unfold nxt; rw [tms_len]
  have e3 : 1 < q3.length := by omega
  have e3' : (1 : Int) < q3.length := by omega
  rw [el] at a69
  rw [e2]
  have ag := fun hp rd q => app_g (h := hp) (b := 1) (c := 3) (l := 3) (V := [sl 2 0 q1.length q1.length, sl 3 0 q2.length q2.length, sl 4 0 q3.length q3.length]) (v := sl q 0 (dgP (ovF q2 q3).2) (dgP (ovF q2 q3).2)) (fl := false) (rd := rd) rfl (by omega) rfl
  clear hB c4 c5
  simp only [zB, List.length_cons, List.length_nil, Nat.reduceAdd, List.cons_append, List.nil_append] at a68 a69 ag ⊢
  generalize dgP (ovF q2 q3).1 = d1 at *
  generalize dgP (ovF q2 q3).2 = d2 at *
  generalize zm (lea (ovF q2 q3).1) = L1 at *
  generalize zm (lea (ovF q2 q3).2) = L2 at *
  generalize zm (nxt q2 q3) = L3 at *
  generalize zm q1 = M1 at *
  generalize zm q2 = M2 at *
  generalize zm q3 = M3 at *
  generalize hX : lpB Try.prog LL ⟨44, 44, 1, none⟩ n44_8 n44_9 ⟨[(4, sl 1 0 4 4)], _, []⟩ = X
  rw [lpB_eq]
  simp (maxSteps := 1000000) (disch := first | omega | decide | assumption | simp [scal]) [o_indexAddrS es_31, ze_31, o_buildSlice es_31 ze_31 (by decide) ba_31_2, lenA_sl lk_31, loadA_eq ia_22, lenA_sl lk_22, o_buildSlice es_31 ze_31 (by decide) ba_31_1, ap_31, builtin_append ni_31, e3, e3', a68, a69, append_some ap_31, srcCells, ag, hX]
end
section
variable {cs : List Value} {own : Bool} (q1 q2 q3 q4 : List Int)
theorem l44e_4 (h1 : q4.length = 1) : lpB Try.prog LL ⟨44, 44, 1, none⟩ n44_8 n44_9 ⟨[(4, sl 1 0 4 4)], [.cells cs 1 true own, .cells [sl 2 0 q1.length q1.length, sl 3 0 q2.length q2.length, sl 4 0 q3.length q3.length, sl 5 0 q4.length q4.length] 1 false true, zB q1, zB q2, zB q3, zB q4], []⟩ = some (.exit 0, ⟨[(4, sl 1 0 4 4)], [.cells cs 1 true own, .cells [sl 2 0 q1.length q1.length, sl 3 0 q2.length q2.length, sl 4 0 q3.length q3.length, sl 5 0 q4.length q4.length] 1 false true, zB q1, zB q2, zB q3, zB q4], []⟩) := by
  simp only [zB, h1]
  rw [lpB_eq]
  simp (maxSteps := 1000000) (disch := first | omega | decide | assumption | simp [scal]) [o_indexAddrS es_31, ze_31, o_buildSlice es_31 ze_31 (by decide) ba_31_2, lenA_sl lk_31, loadA_eq ia_22, lenA_sl lk_22, o_buildSlice es_31 ze_31 (by decide) ba_31_1, ap_31, builtin_append ni_31]
end
end Go.Proofs.Ytkmompbfcgjgmaa.nt
namespace Go.Proofs.Ytkmompbfcgjgmaa.nt
open Go.GE
set_option linter.unusedVariables false
set_option linter.unusedSimpArgs false
set_option linter.unusedSectionVars false
set_option maxRecDepth 100000
set_option maxHeartbeats 4000000
attribute [local simp] runOps_nil runOps_cons runOpsF_nil runOpsF_cons fstS_some fstF_some opStep_eq want_none oStep_true oStep_false fin_pure fin_read fin_alloc fin_write storeB wrN cellV addWr o_move o_assign o_pick o_alloc o_box o_load o_store o_nilCheck o_bin o_un o_extract o_callV o_callB o_callI callV_f callV_y callV_fc o_makeFunc partsA Instr.fill builtin_len builtin_max2 bin_add bin_sub bin_mul bin_quo bin_rem bin_lss bin_leq bin_gtr bin_geq bin_eql bin_neq un_neg un_not bin_shr bin_shl wrap_u64_id opd opds optAll putO nbeq nblt constOk isC ops sub cl cr co bodyOf thenS_normal thenS_ret thenS_exit thenS_goto afterN_normal afterN_ret afterN_exit afterN_goto condS_true condS_false blockS_normal blockS_ret blockS_exit blockS_goto headS normS normK_eq fixS_nil fixS_cons fix1 fixV emptyB keepO_nil keepO_cons roundC_normal roundC_exit roundC_ret roundC_goto sweep_eq sweepD rnm pickR pickW rootsB ptrT renT ptrFn renFn ptrB_flat ptrB_non renB_flat renB_non plainS_some drawS_some fpsOk disj unord range' dropTo enumT undef wrap_i64_id Value.cells mkCells ptrTo scal cellsAt rdN endS_ret resultsA Option.bind_some tupV finish reachN dep ptrL_eq ptrL renL_eq renL ptrV_bool ptrV_int ptrV_string ptrV_nilFunc ptrV_nilIface ptrV_nilPtr ptrV_ptr ptrV_nilSl ptrV_sl ptrV_iface ptrV_agg ptrV_tuple ptrV_func renV_bool renV_int renV_string renV_nilFunc renV_nilIface renV_nilPtr renV_ptr renV_nilSl renV_sl renV_iface renV_agg renV_tuple renV_func gotoS_goto gotoS_normal gotoS_exit gotoS_ret skip_seq sliceE bnd bndHi intOf optOpd keepT_nil keepT_cons keepC_t keepC_f lk_nil lk_cons lkC_t lkC_f has_nil has_cons hasC_t hasC_f rep_nil rep_cons repC_t repC_f put_eq putC_t putC_f mem_nil mem_cons memC_t memC_f idx_nil idx_cons idxC_t idxC_f reach_nil reachP_cons reachQ_t reachQ_f ptrB_dead renB_dead ins_eq
attribute [local simp] n74_1s n74_3s n74_4s n74_2s n74_0s Try.f74 n47_1s n47_3s n47_4s n47_2s n47_0s Try.f47 n39_1s n39_3s n39_4s n39_2s n39_0s Try.f39 n22_1s n22_4s n22_7s n22_8s n22_6s n22_9s n22_5s n22_3s n22_12s n22_15s n22_16s n22_14s n22_17s n22_13s n22_11s n22_20s n22_25s n22_27s n22_28s n22_26s n22_24s n22_32s n22_35s n22_36s n22_34s n22_37s n22_33s n22_31s n22_30s n22_38s n22_29s n22_23s n22_22s n22_22g n22_21s n22_19s n22_41s n22_44s n22_45s n22_43s n22_46s n22_42s n22_40s n22_48s n22_49s n22_47s n22_39s n22_18s n22_10s n22_2s n22_0s Try.f22 n44_1s n44_3s n44_5s n44_11s n44_13s n44_14s n44_12s n44_10s n44_17s n44_18s n44_16s n44_15s n44_9s n44_8s n44_8g n44_7s n44_20s n44_21s n44_19s n44_6s n44_4s n44_2s n44_0s Try.f44 n16_1s n16_3s n16_6s n16_9s n16_10s n16_8s n16_11s n16_7s n16_5s n16_13s n16_14s n16_12s n16_4s n16_2s n16_0s Try.f16 n18_1s n18_3s n18_6s n18_9s n18_10s n18_8s n18_11s n18_7s n18_5s n18_13s n18_14s n18_12s n18_4s n18_2s n18_0s Try.f18
theorem r74 (x y z : Int) (h : List Blk) : callH LL 74 [iv x, iv y, iv z] h = some ⟨.bool (decide (y ≤ x) && decide (x ≤ z)), h, [], []⟩ := by
  refine callH_plain (go (by decide) ?_) rfl rfl
  rw [run74 _ _ _ (by simp)]
  by_cases h1 : y ≤ x
  · by_cases h2 : x ≤ z
    · simp (maxSteps := 1000000) (disch := first | omega | decide | assumption | simp [scal]) [want_some q74_3g3, h1, h2]
    · simp (maxSteps := 1000000) (disch := first | omega | decide | assumption | simp [scal]) [want_some q74_3g3, h1, h2]
  · simp (maxSteps := 1000000) (disch := first | omega | decide | assumption | simp [scal]) [want_some q74_3g3, h1]
theorem r47 (x y z : Int) (h : List Blk) : callH LL 47 [iv x, iv y, iv z] h = some ⟨.bool (decide (y ≤ x) && decide (x ≤ z)), h, [], []⟩ := by
  refine callH_plain (go (by decide) ?_) rfl rfl
  have a := fun h => r74 x y z h
  generalize (decide (y ≤ x) && decide (x ≤ z)) = B at *
  rw [run47 _ _ _ (by simp)]
  simp (maxSteps := 1000000) (disch := first | omega | decide | assumption | simp [scal]) [a]
theorem r39 (x y : Int) (h : List Blk) : callH LL 39 [.agg #[iv x, iv y]] h = some ⟨.bool (goodR x y), h, [], []⟩ := by
  refine callH_none rfl (fun _ => rfl) (go (by decide) ?_) fun _ => rfl
  have a1 := fun h => r47 x (-100000) 100000 h
  have a2 := fun h => r47 y 1 1000 h
  rw [run39 _ _ _ (by simp)]
  have e : goodR x y = ((decide (-100000 ≤ x) && decide (x ≤ 100000)) && (decide (1 ≤ y) && decide (y ≤ 1000))) := by unfold goodR; simp only [Bool.and_assoc]
  rw [e]
  generalize (decide (-100000 ≤ x) && decide (x ≤ 100000)) = A at *
  generalize (decide (1 ≤ y) && decide (y ≤ 1000)) = B at *
  cases A
  · simp (maxSteps := 1000000) (disch := first | omega | decide | assumption | simp [scal]) [o_fieldAddr fa_24_0 (by decide), loadA_eq ia_3, o_fieldAddr fa_24_1 (by decide), want_some q39_3g3, a1]
  · simp (maxSteps := 1000000) (disch := first | omega | decide | assumption | simp [scal]) [o_fieldAddr fa_24_0 (by decide), loadA_eq ia_3, o_fieldAddr fa_24_1 (by decide), want_some q39_3g3, a1, a2]
theorem q22 (c : Nat) {cs : List Value} {own : Bool} {p : List Int} (hp : PoC cs p) (h60 : p.length ≤ 60) : ∀ (q i : Nat), i + q = p.length → ((p.drop i).any badC = true → lpB Try.prog LL ⟨22, 34, 1, none⟩ n22_22 n22_23 ⟨[(0, sl 0 0 p.length c), (3, iv i)], [.cells cs 1 true own], []⟩ =
      some (.ret, ⟨[(2, iv 1)], [.cells cs 1 true own], []⟩)) ∧ ((p.drop i).any badC = false → lpB Try.prog LL ⟨22, 34, 1, none⟩ n22_22 n22_23 ⟨[(0, sl 0 0 p.length c), (3, iv i)], [.cells cs 1 true own], []⟩ =
      some (.exit 0, ⟨[(0, sl 0 0 p.length c)], [.cells cs 1 true own], []⟩)) := by
  intro q
  induction q with
  | zero =>
    intro i hi
    obtain rfl : i = p.length := by omega
    rw [List.drop_length]
    refine ⟨fun h => by simp at h, fun _ => ?_⟩
    rw [lpB_eq]
    simp (maxSteps := 1000000) (disch := first | omega | decide | assumption | simp [scal]) [lenA_sl lk_22, o_indexAddrS es_22, loadA_eq ia_3, want_some q22_41g3]
  | succ q ih =>
    intro i hi
    have e0 : i < p.length := by omega
    have e1 : (i : Int) < p.length := by omega
    have p1 := hp i e0
    have hx : p.getD i 0 = p[i] := by simp [e0]
    obtain ⟨ih1, ih2⟩ := ih (i + 1) (by omega)
    rw [List.drop_eq_getElem_cons e0, List.any_cons, ← hx]
    have a47 := fun h => r47 (p.getD i 0) (-50) 50 h
    have eb : (decide (-50 ≤ p.getD i 0) && decide (p.getD i 0 ≤ 50)) = !(badC (p.getD i 0)) := by
      unfold badC
      rw [Bool.eq_iff_iff]
      simp only [Bool.and_eq_true, Bool.not_eq_true', Bool.or_eq_false_iff, decide_eq_true_eq, decide_eq_false_iff_not]
      omega
    rw [eb] at a47
    simp only [cast1] at ih1 ih2
    clear ih hx eb
    generalize p.getD i 0 = x at *
    cases hb : badC x
    · rw [hb] at a47
      simp only [Bool.false_or]
      refine ⟨fun h => ?_, fun h => ?_⟩
      · have this := ih1 h
        rw [lpB_eq]
        simp (maxSteps := 1000000) (disch := first | omega | decide | assumption | simp [scal]) [lenA_sl lk_22, o_indexAddrS es_22, loadA_eq ia_3, want_some q22_41g3, e0, e1, p1, a47, this]
      · have this := ih2 h
        rw [lpB_eq]
        simp (maxSteps := 1000000) (disch := first | omega | decide | assumption | simp [scal]) [lenA_sl lk_22, o_indexAddrS es_22, loadA_eq ia_3, want_some q22_41g3, e0, e1, p1, a47, this]
    · rw [hb] at a47
      simp only [Bool.true_or]
      refine ⟨fun _ => ?_, fun h => by cases h⟩
      rw [lpB_eq]
      simp (maxSteps := 1000000) (disch := first | omega | decide | assumption | simp [scal]) [lenA_sl lk_22, o_indexAddrS es_22, loadA_eq ia_3, want_some q22_41g3, e0, e1, p1, a47]
section
variable (b c : Nat) {cs : List Value} {own : Bool} {p : List Int} {h : List Blk} (hb : h[b]? = some (.cells cs 1 true own)) (hp : PoC cs p)
include hb hp
theorem r22 (hl : p.length ≤ 4000000000) : callH LL 22 [sl b 0 p.length c] h = some ⟨iv (chkE p), h, [b], []⟩ := by
  refine callH_1 rfl hb noIdB_flat (args' := [sl 0 0 p.length c]) (by simp [renV, dep, optAll, idx, nbeq]) (go (by decide) ?_) fun _ => rfl
  rw [run22 _ _ _ (by simp)]
  unfold chkE
  by_cases h1 : p.length = 0
  · have h1' : (p.length : Int) = 0 := by omega
    simp (maxSteps := 1000000) (disch := first | omega | decide | assumption | simp [scal]) [lenA_sl lk_22, o_indexAddrS es_22, loadA_eq ia_3, want_some q22_41g3, h1, h1']
  · have h1' : ¬ (p.length : Int) = 0 := by omega
    by_cases h2 : 4 < p.length
    · have h2' : (4 : Int) < p.length := by omega
      simp (maxSteps := 1000000) (disch := first | omega | decide | assumption | simp [scal]) [lenA_sl lk_22, o_indexAddrS es_22, loadA_eq ia_3, want_some q22_41g3, h1, h1', h2, h2']
    · have h2' : ¬ (4 : Int) < p.length := by omega
      have lp := q22 c (own := own) hp (by omega) p.length 0 (by omega)
      rw [List.drop_zero] at lp
      simp only [Int.natCast_zero] at lp
      obtain ⟨lp1, lp2⟩ := lp
      cases h3 : p.any badC
      · have lp := lp2 h3
        by_cases h4 : p.length = 1
        · have h4' : (p.length : Int) = 1 := by omega
          rw [h4] at lp
          simp (maxSteps := 1000000) (disch := first | omega | decide | assumption | simp [scal]) [lenA_sl lk_22, o_indexAddrS es_22, loadA_eq ia_3, want_some q22_41g3, h1, h1', h2, h2', lp, h4, h4']
        · have h4' : ¬ (p.length : Int) = 1 := by omega
          have p1 := hp (p.length - 1) (by omega)
          rw [show p.getD (p.length - 1) 0 = lst p from rfl] at p1
          obtain ⟨m, hm⟩ : ∃ m, p.length = m + 1 := ⟨p.length - 1, by omega⟩
          have e1 : ((m + 1 : Nat) : Int) - 1 = m := by omega
          have e2 : m < m + 1 := by omega
          have e3 : (m : Int) < (m : Int) + 1 := by omega
          have e4 : m ≤ 59 := by omega
          have e5 : ¬ m = 0 := by omega
          have e6 : ¬ (m : Int) = 0 := by omega
          have e7 : ¬ (4 : Int) < (m : Int) + 1 := by omega
          have e8 : ¬ 4 < m + 1 := by omega
          have e9 : ¬ (m : Int) + 1 = 1 := by omega
          have e10 : ¬ (m : Int) + 1 = 0 := by omega
          have e11 : IntKind.i64.wrap (m : Int) = m := wrap_i64_id (by omega) (by omega)
          rw [hm] at lp p1 ⊢
          rw [Nat.add_sub_cancel] at p1
          have p3 : ∀ (h : m < cs.length), cs[m]'h = iv (lst p) := fun h => by rw [List.getElem?_eq_getElem h] at p1; exact Option.some.inj p1
          simp only [cast1] at e1 lp ⊢
          clear h1 h1' h2 h2' h4 h4' hb hp hl hm lp1 lp2
          by_cases h5 : lst p = 0
          · rw [h5] at p1 p3
            simp (maxSteps := 1000000) (disch := first | omega | decide | assumption | simp [scal]) [lenA_sl lk_22, o_indexAddrS es_22, loadA_eq ia_3, want_some q22_41g3, e1, e2, e3, e5, e6, e7, e8, e9, e10, e11, lp, p1, p3, h5]
          · generalize lst p = x at *
            simp (maxSteps := 1000000) (disch := first | omega | decide | assumption | simp [scal]) [lenA_sl lk_22, o_indexAddrS es_22, loadA_eq ia_3, want_some q22_41g3, e1, e2, e3, e5, e6, e7, e8, e9, e10, e11, lp, p1, p3, h5]
      · have lp := lp1 h3
        simp (maxSteps := 1000000) (disch := first | omega | decide | assumption | simp [scal]) [lenA_sl lk_22, o_indexAddrS es_22, loadA_eq ia_3, want_some q22_41g3, h1, h1', h2, h2', lp]
theorem r44 (hB : stuB p = true) (hl : lst p ≠ 0) : callH LL 44 [sl b 0 p.length c] h = some ⟨sl h.length 0 (stu p).length (stu p).length, h ++ stBk h.length (stu p), [b], []⟩ := by
  unfold stuB at hB
  simp only [Bool.and_eq_true] at hB
  obtain ⟨⟨⟨⟨c1, c2⟩, c3⟩, c4⟩, c5⟩ := hB
  have c2 := Nat.le_of_ble_eq_true c2
  have c3 := Nat.le_of_ble_eq_true c3
  have a42 := r42 0 c (h := [.cells cs 1 true own]) rfl hp c1 hl
  have a55 := r55 1 (cor p).length (p := cor p) (h := [.cells cs 1 true own, zB (cor p)]) rfl PoC_zm (by omega) c3 (sm_slp c4)
  have a72 := r72 2 ((cor p).length - 1) (p := slp (cor p)) (h := [.cells cs 1 true own, zB (cor p), zB (slp (cor p))]) rfl PoC_zm (by rw [slp_len]; omega) (allB_lt c4)
  rw [slp_len] at a72
  obtain ⟨l, hll⟩ : ∃ l, lea (slp (cor p)) = l := ⟨_, rfl⟩
  have hlen : l.length = dgP (slp (cor p)) := by rw [← hll, lea_len]
  have hst : stu p = (bif Nat.beq l.length 1 then [cor p, l] else (bif Nat.beq (nxt (cor p) l).length 1 then [cor p, l, nxt (cor p) l] else [cor p, l, nxt (cor p) l, nxt l (nxt (cor p) l)])) := by unfold stu; rw [hll]
  rw [hll, ← hlen] at a72
  rw [hll] at c5
  rw [hst]
  generalize cor p = C at *
  simp only [zB] at a42 a55 a72
  generalize zm (slp C) = S2 at *
  clear c4 hll hlen hst c1 hl
  by_cases h1 : l.length = 1
  · have eb : Nat.beq l.length 1 = true := by rw [h1]; rfl
    simp only [eb, cond_true]
    have lp := l44e_2 (cs := cs) (own := own) C l h1
    refine callP_1 rfl hb noIdB_flat (args' := [sl 0 0 p.length c]) (by simp [renV, dep, optAll, idx, nbeq]) (v := sl 1 0 2 2) (news := stBk 1 [C, l]) (go (by decide) ?_)
      (by simp [stBk, stC, zB, optAll, renB, renL, renL_eq, renV_sl, dep, nblt]) (by simp [renV, dep])
    simp only [stBk, stC, zB, List.map_cons, List.map_nil, List.length_cons, List.length_nil, Nat.reduceAdd, List.cons_append, List.nil_append] at a42 a55 a72 lp ⊢
    clear h1 eb hp c2 c3
    rw [run44 _ _ _ (by simp)]
    simp (maxSteps := 1000000) (disch := first | omega | decide | assumption | simp [scal]) [o_indexAddrS es_31, ze_31, o_buildSlice es_31 ze_31 (by decide) ba_31_2, lenA_sl lk_31, loadA_eq ia_22, lenA_sl lk_22, o_buildSlice es_31 ze_31 (by decide) ba_31_1, ap_31, builtin_append ni_31, a42, a55, a72, lp]
  · have eb : Nat.beq l.length 1 = false := by rw [nbeq]; simp [h1]
    simp only [eb, cond_false, Bool.and_eq_true] at c5 ⊢
    obtain ⟨c5, c6⟩ := c5
    have lp1 := l44s_2 (cs := cs) (own := own) C l c5
    by_cases h2 : (nxt C l).length = 1
    · have eb2 : Nat.beq (nxt C l).length 1 = true := by rw [h2]; rfl
      simp only [eb2, cond_true]
      have lp := lp1.trans (l44e_3 (cs := cs) (own := own) C l (nxt C l) h2)
      refine callP_1 rfl hb noIdB_flat (args' := [sl 0 0 p.length c]) (by simp [renV, dep, optAll, idx, nbeq]) (v := sl 1 0 3 3) (news := stBk 1 [C, l, nxt C l]) (go (by decide) ?_)
        (by simp [stBk, stC, zB, optAll, renB, renL, renL_eq, renV_sl, dep, nblt]) (by simp [renV, dep])
      simp only [stBk, stC, zB, List.map_cons, List.map_nil, List.length_cons, List.length_nil, Nat.reduceAdd, List.cons_append, List.nil_append] at a42 a55 a72 lp ⊢
      generalize nxt C l = r at *
      clear h1 eb h2 eb2 c6 lp1 hp c2 c3 c5
      rw [run44 _ _ _ (by simp)]
      simp (maxSteps := 1000000) (disch := first | omega | decide | assumption | simp [scal]) [o_indexAddrS es_31, ze_31, o_buildSlice es_31 ze_31 (by decide) ba_31_2, lenA_sl lk_31, loadA_eq ia_22, lenA_sl lk_22, o_buildSlice es_31 ze_31 (by decide) ba_31_1, ap_31, builtin_append ni_31, a42, a55, a72, lp]
    · have eb2 : Nat.beq (nxt C l).length 1 = false := by rw [nbeq]; simp [h2]
      simp only [eb2, cond_false, Bool.and_eq_true] at c6 ⊢
      obtain ⟨c6, c7⟩ := c6
      have c7 := Nat.eq_of_beq_eq_true c7
      have lp := (lp1.trans (l44s_3 (cs := cs) (own := own) C l (nxt C l) c6)).trans (l44e_4 (cs := cs) (own := own) C l (nxt C l) (nxt l (nxt C l)) c7)
      refine callP_1 rfl hb noIdB_flat (args' := [sl 0 0 p.length c]) (by simp [renV, dep, optAll, idx, nbeq]) (v := sl 1 0 4 4) (news := stBk 1 [C, l, nxt C l, nxt l (nxt C l)]) (go (by decide) ?_)
        (by simp [stBk, stC, zB, optAll, renB, renL, renL_eq, renV_sl, dep, nblt]) (by simp [renV, dep])
      simp only [stBk, stC, zB, List.map_cons, List.map_nil, List.length_cons, List.length_nil, Nat.reduceAdd, List.cons_append, List.nil_append] at a42 a55 a72 lp ⊢
      generalize nxt l (nxt C l) = r2 at *
      generalize nxt C l = r at *
      clear h1 eb h2 eb2 c6 c7 lp1 hp c2 c3 c5
      rw [run44 _ _ _ (by simp)]
      simp (maxSteps := 1000000) (disch := first | omega | decide | assumption | simp [scal]) [o_indexAddrS es_31, ze_31, o_buildSlice es_31 ze_31 (by decide) ba_31_2, lenA_sl lk_31, loadA_eq ia_22, lenA_sl lk_22, o_buildSlice es_31 ze_31 (by decide) ba_31_1, ap_31, builtin_append ni_31, a42, a55, a72, lp]
theorem r16 (hl : p.length ≤ 4000000000) (hB : chkE p = 0 → corB p = true ∧ lst p ≠ 0) : callH LL 16 [sl b 0 p.length c] h = some ⟨.tuple #[sl h.length 0 (corR p).length (corR p).length, iv (chkE p)], h ++ [zB (corR p)], [b], []⟩ := by
  refine callN_1 rfl hb noIdB_flat (args' := [sl 0 0 p.length c]) (by simp [renV, dep, optAll, idx, nbeq]) (v := .tuple #[sl 1 0 (corR p).length (corR p).length, iv (chkE p)]) (news := [zB (corR p)]) (go (by decide) ?_) (by intro blk hb; simp only [List.mem_singleton] at hb; subst hb; exact noIdB_flat) (by simp [renV, dep, optAll])
  have a22 := fun R => r22 0 c (h := .cells cs 1 true own :: R) rfl hp hl
  unfold corR
  by_cases hE : chkE p = 0
  · have a42 := r42 0 c (h := [.cells cs 1 true own]) rfl hp (hB hE).1 (hB hE).2
    rw [if_pos hE, hE]
    rw [hE] at a22
    generalize cor p = C at *
    simp only [zB] at a42 ⊢
    generalize zm C = M at *
    clear hl hE hB hp
    rw [run16 _ _ _ (by simp)]
    simp (maxSteps := 1000000) (disch := first | omega | decide | assumption | simp [scal]) [a22, a42]
  · rw [if_neg hE]
    generalize chkE p = e at *
    clear hl hB hp
    simp only [zB, show zm [] = [] from rfl, List.length_nil]
    rw [run16 _ _ _ (by simp)]
    simp (maxSteps := 1000000) (disch := first | omega | decide | assumption | simp [scal]) [a22, hE]
theorem r18 (hl : p.length ≤ 4000000000) (hB : chkE p = 0 → stuB p = true ∧ lst p ≠ 0) : callH LL 18 [sl b 0 p.length c] h = some ⟨.tuple #[sl h.length 0 (stuR p).length (stuR p).length, iv (chkE p)], h ++ stBk h.length (stuR p), [b], []⟩ := by
  have a22 := fun R => r22 0 c (h := .cells cs 1 true own :: R) rfl hp hl
  unfold stuR
  by_cases hE : chkE p = 0
  · have a44 := r44 0 c (h := [.cells cs 1 true own]) rfl hp (hB hE).1 (hB hE).2
    rw [if_pos hE, hE]
    rw [hE] at a22
    rcases stu_cases (hB hE).1 with ⟨q1, q2, hq⟩ | ⟨q1, q2, q3, hq⟩ | ⟨q1, q2, q3, q4, hq⟩
    · rw [hq] at a44 ⊢
      refine callP_1 rfl hb noIdB_flat (args' := [sl 0 0 p.length c]) (by simp [renV, dep, optAll, idx, nbeq]) (v := .tuple #[sl 1 0 2 2, iv 0]) (news := stBk 1 [q1, q2]) (go (by decide) ?_)
        (by simp [stBk, stC, zB, optAll, renB, renL, renL_eq, renV_sl, dep, nblt]) (by simp [renV, dep, optAll])
      simp only [stBk, stC, zB, List.map_cons, List.map_nil, List.length_cons, List.length_nil, Nat.reduceAdd, List.cons_append, List.nil_append] at a44 ⊢
      clear hl hE hB hp hq
      rw [run18 _ _ _ (by simp)]
      simp (maxSteps := 1000000) (disch := first | omega | decide | assumption | simp [scal]) [a22, a44]
    · rw [hq] at a44 ⊢
      refine callP_1 rfl hb noIdB_flat (args' := [sl 0 0 p.length c]) (by simp [renV, dep, optAll, idx, nbeq]) (v := .tuple #[sl 1 0 3 3, iv 0]) (news := stBk 1 [q1, q2, q3]) (go (by decide) ?_)
        (by simp [stBk, stC, zB, optAll, renB, renL, renL_eq, renV_sl, dep, nblt]) (by simp [renV, dep, optAll])
      simp only [stBk, stC, zB, List.map_cons, List.map_nil, List.length_cons, List.length_nil, Nat.reduceAdd, List.cons_append, List.nil_append] at a44 ⊢
      clear hl hE hB hp hq
      rw [run18 _ _ _ (by simp)]
      simp (maxSteps := 1000000) (disch := first | omega | decide | assumption | simp [scal]) [a22, a44]
    · rw [hq] at a44 ⊢
      refine callP_1 rfl hb noIdB_flat (args' := [sl 0 0 p.length c]) (by simp [renV, dep, optAll, idx, nbeq]) (v := .tuple #[sl 1 0 4 4, iv 0]) (news := stBk 1 [q1, q2, q3, q4]) (go (by decide) ?_)
        (by simp [stBk, stC, zB, optAll, renB, renL, renL_eq, renV_sl, dep, nblt]) (by simp [renV, dep, optAll])
      simp only [stBk, stC, zB, List.map_cons, List.map_nil, List.length_cons, List.length_nil, Nat.reduceAdd, List.cons_append, List.nil_append] at a44 ⊢
      clear hl hE hB hp hq
      rw [run18 _ _ _ (by simp)]
      simp (maxSteps := 1000000) (disch := first | omega | decide | assumption | simp [scal]) [a22, a44]
  · rw [if_neg hE]
    refine callP_1 rfl hb noIdB_flat (args' := [sl 0 0 p.length c]) (by simp [renV, dep, optAll, idx, nbeq]) (v := .tuple #[sl 1 0 0 0, iv (chkE p)]) (news := stBk 1 []) (go (by decide) ?_)
      (by simp [stBk, stC, zB, optAll, renB, renL, renL_eq, renV_sl, dep, nblt]) (by simp [renV, dep, optAll])
    generalize chkE p = e at *
    clear hl hB hp
    simp only [stBk, stC, List.map_nil]
    rw [run18 _ _ _ (by simp)]
    simp (maxSteps := 1000000) (disch := first | omega | decide | assumption | simp [scal]) [a22, hE]
end
end Go.Proofs.Ytkmompbfcgjgmaa.nt
namespace Go.Proofs.Ytkmompbfcgjgmaa.nt
open Go.GE
set_option linter.unusedVariables false
set_option linter.unusedSimpArgs false
set_option linter.unusedSectionVars false
set_option maxRecDepth 100000
set_option maxHeartbeats 4000000
attribute [local simp] runOps_nil runOps_cons runOpsF_nil runOpsF_cons fstS_some fstF_some opStep_eq want_none oStep_true oStep_false fin_pure fin_read fin_alloc fin_write storeB wrN cellV addWr o_move o_assign o_pick o_alloc o_box o_load o_store o_nilCheck o_bin o_un o_extract o_callV o_callB o_callI callV_f callV_y callV_fc o_makeFunc partsA Instr.fill builtin_len builtin_max2 bin_add bin_sub bin_mul bin_quo bin_rem bin_lss bin_leq bin_gtr bin_geq bin_eql bin_neq un_neg un_not bin_shr bin_shl wrap_u64_id opd opds optAll putO nbeq nblt constOk isC ops sub cl cr co bodyOf thenS_normal thenS_ret thenS_exit thenS_goto afterN_normal afterN_ret afterN_exit afterN_goto condS_true condS_false blockS_normal blockS_ret blockS_exit blockS_goto headS normS normK_eq fixS_nil fixS_cons fix1 fixV emptyB keepO_nil keepO_cons roundC_normal roundC_exit roundC_ret roundC_goto sweep_eq sweepD rnm pickR pickW rootsB ptrT renT ptrFn renFn ptrB_flat ptrB_non renB_flat renB_non plainS_some drawS_some fpsOk disj unord range' dropTo enumT undef wrap_i64_id Value.cells mkCells ptrTo scal cellsAt rdN endS_ret resultsA Option.bind_some tupV finish reachN dep ptrL_eq ptrL renL_eq renL ptrV_bool ptrV_int ptrV_string ptrV_nilFunc ptrV_nilIface ptrV_nilPtr ptrV_ptr ptrV_nilSl ptrV_sl ptrV_iface ptrV_agg ptrV_tuple ptrV_func renV_bool renV_int renV_string renV_nilFunc renV_nilIface renV_nilPtr renV_ptr renV_nilSl renV_sl renV_iface renV_agg renV_tuple renV_func gotoS_goto gotoS_normal gotoS_exit gotoS_ret skip_seq sliceE bnd bndHi intOf optOpd keepT_nil keepT_cons keepC_t keepC_f lk_nil lk_cons lkC_t lkC_f has_nil has_cons hasC_t hasC_f rep_nil rep_cons repC_t repC_f put_eq putC_t putC_f mem_nil mem_cons memC_t memC_f idx_nil idx_cons idxC_t idxC_f reach_nil reachP_cons reachQ_t reachQ_f ptrB_dead renB_dead ins_eq
attribute [local simp] n40_1s n40_3s n40_6s n40_11s n40_13s n40_14s n40_12s n40_10s n40_18s n40_21s n40_26s n40_28s n40_29s n40_27s n40_25s n40_33s n40_35s n40_36s n40_34s n40_32s n40_31s n40_37s n40_30s n40_24s n40_23s n40_23g n40_22s n40_20s n40_38s n40_19s n40_17s n40_16s n40_39s n40_15s n40_9s n40_8s n40_8g n40_7s n40_5s n40_41s n40_42s n40_40s n40_4s n40_2s n40_0s Try.f40 n14_1s n14_3s n14_6s n14_8s n14_9s n14_7s n14_5s n14_12s n14_15s n14_16s n14_14s n14_17s n14_13s n14_11s n14_19s n14_20s n14_18s n14_10s n14_4s n14_2s n14_0s Try.f14
def atI (x y : Int) (i : Nat) : Nat → Nat → Int → Int
  | 0, _, v => v
  | q + 1, k, v => atI x y i q (k + 1) (if k ≤ i then v * x else v * y)
def atS (x y : Int) (p : List Int) : Nat → Nat → Int → Int
  | 0, _, s => s
  | q + 1, i, s => atS x y p q (i + 1) (s + atI x y i (p.length - 1) 1 (p.getD i 0))
section
variable {x y : Int} (hx : x.natAbs ≤ 100000) (hy : y.natAbs ≤ 100000)
include hx hy
theorem at_step {v : Int} {k i j : Nat} (hv : v.natAbs ≤ 50 * 100000 ^ j) : (if k ≤ i then v * x else v * y).natAbs ≤ 50 * 100000 ^ (j + 1) := by
  rw [Nat.pow_succ, ← Nat.mul_assoc]
  split
  · exact mulAB hv hx
  · exact mulAB hv hy
theorem atI_bd {i : Nat} : ∀ (q k j : Nat) (v : Int), v.natAbs ≤ 50 * 100000 ^ j → (atI x y i q k v).natAbs ≤ 50 * 100000 ^ (j + q) := by
  intro q
  induction q with
  | zero => intro k j v h; exact h
  | succ q ih =>
    intro k j v h
    have := ih (k + 1) (j + 1) _ (at_step hx hy (k := k) (i := i) h)
    rw [show j + 1 + q = j + (q + 1) by omega] at this
    exact this
section
variable (c : Nat) {cs : List Value} {own : Bool} {p : List Int} (hp : PoC cs p) (h4 : p.length ≤ 4) (hb : BdL 50 p)
include hp h4
theorem q40i (s : Int) (i : Nat) (hi : i < p.length) : ∀ (q k j : Nat) (v : Int), k + q = p.length → 1 ≤ k → j + q ≤ 3 → v.natAbs ≤ 50 * 100000 ^ j →
    lpB Try.prog LL ⟨40, 41, 1, none⟩ n40_23 n40_24 ⟨[(7, iv v), (8, iv k), (0, sl 0 0 p.length c), (3, pp 1), (5, iv s), (6, iv i)], [.cells cs 1 true own, bxR x y], []⟩ =
      some (.exit 2, ⟨[(7, iv (atI x y i q k v)), (0, sl 0 0 p.length c), (3, pp 1), (5, iv s), (6, iv i)], [.cells cs 1 true own, bxR x y], []⟩) := by
  intro q
  induction q with
  | zero =>
    intro k j v hk h1 hj hv
    obtain rfl : k = p.length := by omega
    simp only [atI]
    rw [lpB_eq]
    simp (maxSteps := 1000000) (disch := first | omega | decide | assumption | simp [scal]) [lenA_sl lk_22, o_indexAddrS es_22, loadA_eq ia_3, o_fieldAddr fa_24_0 (by decide), o_fieldAddr fa_24_1 (by decide)]
  | succ q ih =>
    intro k j v hk h1 hj hv
    have e0 : k < p.length := by omega
    have e1 : (k : Int) < p.length := by omega
    have hst := at_step hx hy (k := k) (i := i) hv
    have this := ih (k + 1) (j + 1) _ (by omega) (by omega) (by omega) hst
    simp only [atI]
    have hpw : 100000 ^ (j + 1) ≤ 100000 ^ 3 := Nat.pow_le_pow_right (by decide) (by omega)
    simp only [cast1] at this
    have e9 : (100000 : Nat) ^ 3 = 1000000000000000 := rfl
    by_cases c1 : k ≤ i
    · rw [if_pos c1] at this hst ⊢
      have c1' : (k : Int) ≤ i := by omega
      have w : IntKind.i64.wrap (v * x) = v * x := wrap_i64_id (by omega) (by omega)
      generalize atI x y i q (k + 1) (v * x) = Z at *
      clear ih hp hst hv hpw e9
      rw [lpB_eq]
      simp (maxSteps := 1000000) (disch := first | omega | decide | assumption | simp [scal]) [lenA_sl lk_22, o_indexAddrS es_22, loadA_eq ia_3, o_fieldAddr fa_24_0 (by decide), o_fieldAddr fa_24_1 (by decide), e0, e1, c1, c1', w, this]
    · rw [if_neg c1] at this hst ⊢
      have c1' : ¬ (k : Int) ≤ i := by omega
      have w : IntKind.i64.wrap (v * y) = v * y := wrap_i64_id (by omega) (by omega)
      generalize atI x y i q (k + 1) (v * y) = Z at *
      clear ih hp hst hv hpw e9
      rw [lpB_eq]
      simp (maxSteps := 1000000) (disch := first | omega | decide | assumption | simp [scal]) [lenA_sl lk_22, o_indexAddrS es_22, loadA_eq ia_3, o_fieldAddr fa_24_0 (by decide), o_fieldAddr fa_24_1 (by decide), e0, e1, c1, c1', w, this]
include hb
theorem q40o : ∀ (q i : Nat) (s : Int), i + q = p.length → s.natAbs ≤ 50000000000000000 * i →
    lpB Try.prog LL ⟨40, 41, 1, none⟩ n40_8 n40_9 ⟨[(0, sl 0 0 p.length c), (3, pp 1), (5, iv s), (6, iv i)], [.cells cs 1 true own, bxR x y], []⟩ =
      some (.exit 0, ⟨[(5, iv (atS x y p q i s))], [.cells cs 1 true own], []⟩) := by
  intro q
  induction q with
  | zero =>
    intro i s hi hs
    obtain rfl : i = p.length := by omega
    simp only [atS]
    rw [lpB_eq]
    simp (maxSteps := 1000000) (disch := first | omega | decide | assumption | simp [scal]) [lenA_sl lk_22, o_indexAddrS es_22, loadA_eq ia_3, o_fieldAddr fa_24_0 (by decide), o_fieldAddr fa_24_1 (by decide)]
  | succ q ih =>
    intro i s hi hs
    have e0 : i < p.length := by omega
    have e1 : (i : Int) < p.length := by omega
    have p1 := hp i e0
    have hv : (p.getD i 0).natAbs ≤ 50 * 100000 ^ 0 := hb i
    have li := q40i hx hy c (own := own) hp h4 s i e0 (p.length - 1) 1 0 (p.getD i 0) (by omega) (by omega) (by omega) hv
    have bd := atI_bd hx hy (i := i) (p.length - 1) 1 0 (p.getD i 0) hv
    have hpw : 100000 ^ (0 + (p.length - 1)) ≤ 100000 ^ 3 := Nat.pow_le_pow_right (by decide) (by omega)
    have e9 : (100000 : Nat) ^ 3 = 1000000000000000 := rfl
    simp only [atS]
    generalize atI x y i (p.length - 1) 1 (p.getD i 0) = V at *
    have this := ih (i + 1) (s + V) (by omega) (by omega)
    have w : IntKind.i64.wrap (s + V) = s + V := wrap_i64_id (by omega) (by omega)
    simp only [cast1] at this
    simp only [Int.natCast_one] at li
    clear ih hp hb hv bd hpw e9 hs
    generalize atS x y p q (i + 1) (s + V) = Z at *
    generalize p.getD i 0 = v at *
    rw [lpB_eq]
    simp (maxSteps := 1000000) (disch := first | omega | decide | assumption | simp [scal]) [lenA_sl lk_22, o_indexAddrS es_22, loadA_eq ia_3, o_fieldAddr fa_24_0 (by decide), o_fieldAddr fa_24_1 (by decide), e0, e1, p1, li, w, this]
end
end
theorem at_eq {x y : Int} {p : List Int} (h2 : 1 ≤ p.length) (h4 : p.length ≤ 4) : atS x y p p.length 0 0 = evS x y p.reverse 0 1 := by
  match p, h2, h4 with
  | [a], _, _ => simp [atS, atI, evS]
  | [b, a], _, _ => simp [atS, atI, evS]; grind
  | [c, b, a], _, _ => simp [atS, atI, evS]; grind
  | [d, c, b, a], _, _ => simp [atS, atI, evS]; grind
section
variable (b c : Nat) {cs : List Value} {own : Bool} {p : List Int} {h : List Blk} (hb : h[b]? = some (.cells cs 1 true own)) (hp : PoC cs p)
include hb hp
theorem r40 (h2 : 1 ≤ p.length) (h4 : p.length ≤ 4) (hB : BdL 50 p) (x y : Int) (hg : goodR x y = true) : callH LL 40 [sl b 0 p.length c, .agg #[iv x, iv y]] h = some ⟨iv (sgP p x y), h, [b], []⟩ := by
  refine callH_1 rfl hb noIdB_flat (args' := [sl 0 0 p.length c, .agg #[iv x, iv y]]) (by simp [renV, dep, optAll, idx, nbeq]) (go (by decide) ?_) fun _ => rfl
  have g := good_bd hg
  have lp := q40o (x := x) (y := y) (by omega) (by omega) c (own := own) hp h4 hB p.length 0 0 (by omega) (by decide)
  rw [at_eq h2 h4] at lp
  unfold sgP
  generalize evS x y p.reverse 0 1 = Z at *
  have a64 := fun h => r64 Z h
  simp only [Int.natCast_zero] at lp
  clear hp hB g hg
  rw [run40 _ _ _ (by simp)]
  simp (maxSteps := 1000000) (disch := first | omega | decide | assumption | simp [scal]) [lenA_sl lk_22, o_indexAddrS es_22, loadA_eq ia_3, o_fieldAddr fa_24_0 (by decide), o_fieldAddr fa_24_1 (by decide), lp, a64]
theorem r14o (hE : chkE p = 0) (h2 : 1 ≤ p.length) (h4 : p.length ≤ 4) (hB : BdL 50 p) (x y : Int) (hg : goodR x y = true) : callH LL 14 [sl b 0 p.length c, .agg #[iv x, iv y]] h = some ⟨.tuple #[iv (sgP p x y), iv 0], h, [b], []⟩ := by
  refine callH_1 rfl hb noIdB_flat (args' := [sl 0 0 p.length c, .agg #[iv x, iv y]]) (by simp [renV, dep, optAll, idx, nbeq]) (go (by decide) ?_) fun _ => rfl
  have a22 := fun R => r22 0 c (h := .cells cs 1 true own :: R) rfl hp (by omega)
  have a40 := fun R => r40 0 c (h := .cells cs 1 true own :: R) rfl hp h2 h4 hB x y hg
  have a39 := fun R => r39 x y R
  rw [hE] at a22
  rw [hg] at a39
  generalize sgP p x y = s at *
  clear hE hB hp h2 h4 hg
  rw [run14 _ _ _ (by simp)]
  simp (maxSteps := 1000000) (disch := first | omega | decide | assumption | simp [scal]) [loadA_eq ia_24, want_some q14_6g2, a22, a39, a40]
theorem r14e (hl : p.length ≤ 4000000000) (hE : chkE p ≠ 0) (x y : Int) : callH LL 14 [sl b 0 p.length c, .agg #[iv x, iv y]] h = some ⟨.tuple #[iv 0, iv (chkE p)], h, [b], []⟩ := by
  refine callH_1 rfl hb noIdB_flat (args' := [sl 0 0 p.length c, .agg #[iv x, iv y]]) (by simp [renV, dep, optAll, idx, nbeq]) (go (by decide) ?_) fun _ => rfl
  have a22 := fun R => r22 0 c (h := .cells cs 1 true own :: R) rfl hp hl
  generalize chkE p = e at *
  clear hl hp
  rw [run14 _ _ _ (by simp)]
  simp (maxSteps := 1000000) (disch := first | omega | decide | assumption | simp [scal]) [loadA_eq ia_24, want_some q14_6g2, a22, hE]
theorem r14g (hl : p.length ≤ 4000000000) (hE : chkE p = 0) (x y : Int) (hg : goodR x y = false) : callH LL 14 [sl b 0 p.length c, .agg #[iv x, iv y]] h = some ⟨.tuple #[iv 0, iv 1], h, [b], []⟩ := by
  refine callH_1 rfl hb noIdB_flat (args' := [sl 0 0 p.length c, .agg #[iv x, iv y]]) (by simp [renV, dep, optAll, idx, nbeq]) (go (by decide) ?_) fun _ => rfl
  have a22 := fun R => r22 0 c (h := .cells cs 1 true own :: R) rfl hp hl
  have a39 := fun R => r39 x y R
  rw [hE] at a22
  rw [hg] at a39
  clear hl hE hp hg
  rw [run14 _ _ _ (by simp)]
  simp (maxSteps := 1000000) (disch := first | omega | decide | assumption | simp [scal]) [loadA_eq ia_24, want_some q14_6g2, a22, a39]
end
end Go.Proofs.Ytkmompbfcgjgmaa.nt
namespace Go.Proofs.Ytkmompbfcgjgmaa.nt
open Go.GE
set_option linter.unusedVariables false
set_option linter.unusedSimpArgs false
set_option linter.unusedSectionVars false
set_option maxRecDepth 100000
set_option maxHeartbeats 4000000
attribute [local simp] runOps_nil runOps_cons runOpsF_nil runOpsF_cons fstS_some fstF_some opStep_eq want_none oStep_true oStep_false fin_pure fin_read fin_alloc fin_write storeB wrN cellV addWr o_move o_assign o_pick o_alloc o_box o_load o_store o_nilCheck o_bin o_un o_extract o_callV o_callB o_callI callV_f callV_y callV_fc o_makeFunc partsA Instr.fill builtin_len builtin_max2 bin_add bin_sub bin_mul bin_quo bin_rem bin_lss bin_leq bin_gtr bin_geq bin_eql bin_neq un_neg un_not bin_shr bin_shl wrap_u64_id opd opds optAll putO nbeq nblt constOk isC ops sub cl cr co bodyOf thenS_normal thenS_ret thenS_exit thenS_goto afterN_normal afterN_ret afterN_exit afterN_goto condS_true condS_false blockS_normal blockS_ret blockS_exit blockS_goto headS normS normK_eq fixS_nil fixS_cons fix1 fixV emptyB keepO_nil keepO_cons roundC_normal roundC_exit roundC_ret roundC_goto sweep_eq sweepD rnm pickR pickW rootsB ptrT renT ptrFn renFn ptrB_flat ptrB_non renB_flat renB_non plainS_some drawS_some fpsOk disj unord range' dropTo enumT undef wrap_i64_id Value.cells mkCells ptrTo scal cellsAt rdN endS_ret resultsA Option.bind_some tupV finish reachN dep ptrL_eq ptrL renL_eq renL ptrV_bool ptrV_int ptrV_string ptrV_nilFunc ptrV_nilIface ptrV_nilPtr ptrV_ptr ptrV_nilSl ptrV_sl ptrV_iface ptrV_agg ptrV_tuple ptrV_func renV_bool renV_int renV_string renV_nilFunc renV_nilIface renV_nilPtr renV_ptr renV_nilSl renV_sl renV_iface renV_agg renV_tuple renV_func gotoS_goto gotoS_normal gotoS_exit gotoS_ret skip_seq sliceE bnd bndHi intOf optOpd keepT_nil keepT_cons keepC_t keepC_f lk_nil lk_cons lkC_t lkC_f has_nil has_cons hasC_t hasC_f rep_nil rep_cons repC_t repC_f put_eq putC_t putC_f mem_nil mem_cons memC_t memC_f idx_nil idx_cons idxC_t idxC_f reach_nil reachP_cons reachQ_t reachQ_f ptrB_dead renB_dead ins_eq
attribute [local simp] n19_1s n19_4s n19_7s n19_8s n19_6s n19_9s n19_5s n19_3s n19_12s n19_17s n19_19s n19_20s n19_18s n19_16s n19_24s n19_27s n19_28s n19_26s n19_29s n19_25s n19_23s n19_22s n19_30s n19_21s n19_15s n19_14s n19_14g n19_13s n19_11s n19_32s n19_33s n19_31s n19_10s n19_2s n19_0s Try.f19 n20_1s n20_4s n20_7s n20_8s n20_6s n20_9s n20_5s n20_3s n20_12s n20_17s n20_19s n20_20s n20_18s n20_16s n20_24s n20_27s n20_28s n20_26s n20_29s n20_25s n20_23s n20_22s n20_30s n20_21s n20_15s n20_14s n20_14g n20_13s n20_11s n20_32s n20_33s n20_31s n20_10s n20_2s n20_0s Try.f20
theorem l19 (c cc : Nat) {cs co : List Value} {own own2 : Bool} {p : List Int} (hp : PoC cs p) (ho : PoC co p) (h60 : p.length ≤ 60) : ∀ (q i : Nat), i + q = p.length →
    lpB Try.prog LL ⟨19, 26, 2, none⟩ n19_14 n19_15 ⟨[(0, sl 0 0 p.length c), (1, sl 1 0 p.length cc), (5, iv i)], [.cells cs 1 true own, .cells co 1 true own2], []⟩ =
      some (.exit 0, ⟨[], [.cells cs 1 true own, .cells co 1 true own2], []⟩) := by
  intro q
  induction q with
  | zero =>
    intro i hi
    obtain rfl : i = p.length := by omega
    rw [lpB_eq]
    simp (maxSteps := 1000000) (disch := first | omega | decide | assumption | simp [scal]) [lenA_sl lk_22, o_indexAddrS es_22, loadA_eq ia_3]
  | succ q ih =>
    intro i hi
    have e0 : i < p.length := by omega
    have e1 : (i : Int) < p.length := by omega
    have p1 := hp i e0
    have p2 := ho i e0
    have this := ih (i + 1) (by omega)
    simp only [cast1] at this
    generalize p.getD i 0 = x at *
    have p1' : ∀ h, cs[i]'h = iv x := fun h => by rw [List.getElem?_eq_getElem h] at p1; exact Option.some.inj p1
    have p2' : ∀ h, co[i]'h = iv x := fun h => by rw [List.getElem?_eq_getElem h] at p2; exact Option.some.inj p2
    clear ih hp ho
    rw [lpB_eq]
    simp (maxSteps := 1000000) (disch := first | omega | decide | assumption | simp [scal]) [lenA_sl lk_22, o_indexAddrS es_22, loadA_eq ia_3, e0, e1, p1, p2, p1', p2', this]
section
variable (b b2 c cc : Nat) {cs co : List Value} {own own2 : Bool} {p : List Int} {h : List Blk} (hb : h[b]? = some (.cells cs 1 true own)) (hb2 : h[b2]? = some (.cells co 1 true own2)) (hne : b ≠ b2) (hp : PoC cs p) (ho : PoC co p)
include hb hb2 hne hp ho
theorem k19 (h60 : p.length ≤ 60) : callH LL 19 [sl b 0 p.length c, sl b2 0 p.length cc] h = some ⟨.bool true, h, [b, b2], []⟩ := by
  have hne' : ¬ b2 = b := fun e => hne e.symm
  have := callN_2 (E := LL) (f := 19) rfl hb hb2 hne noIdB_flat noIdB_flat (args := [sl b 0 p.length c, sl b2 0 p.length cc]) (args' := [sl 0 0 p.length c, sl 1 0 p.length cc]) (by simp [renV, dep, optAll, idx, nbeq, hne, hne']) (v := .bool true) (v' := .bool true) (news := []) (go (by decide) (by
    have lp := l19 c cc (own := own) (own2 := own2) hp ho h60 p.length 0 (by omega)
    simp only [Int.natCast_zero] at lp
    rw [run19 _ _ _ (by simp)]
    simp (maxSteps := 1000000) (disch := first | omega | decide | assumption | simp [scal]) [lenA_sl lk_22, o_indexAddrS es_22, loadA_eq ia_3, lp])) (by intro blk hb; cases hb) (by simp [renV, dep])
  rw [List.append_nil] at this
  exact this
end
theorem l20_0_0 : lpB Try.prog LL ⟨20, 27, 2, none⟩ n20_14 n20_15 ⟨[(0, sl 0 0 0 0), (1, sl 1 0 0 0), (5, iv 0)], [.cells [] 1 false true, .cells [] 1 false true], []⟩ = some (.exit 0, ⟨[], [.cells [] 1 false true, .cells [] 1 false true], []⟩) := by
  rw [lpB_eq]
  simp (maxSteps := 1000000) (disch := first | omega | decide | assumption | simp [scal]) [lenA_sl lk_31, o_indexAddrS es_31, loadA_eq ia_22]
theorem r20_0 : LL.run 20 [sl 0 0 0 0, sl 1 0 0 0] [.cells [] 1 false true, .cells [] 1 false true] = some ⟨.bool true, [], []⟩ := by
  refine go (by decide) ?_
  have lp := l20_0_0  
  rw [run20 _ _ _ (by simp)]
  simp (maxSteps := 1000000) (disch := first | omega | decide | assumption | simp [scal]) [lenA_sl lk_31, o_indexAddrS es_31, loadA_eq ia_22, lp]
theorem h20_0 (Z0 Z1 Z2 Z3 : Blk) : callH LL 20 [sl 4 0 0 0, sl 5 0 0 0] [Z0, Z1, Z2, Z3, .cells [] 1 false true, .cells [] 1 false true] = some ⟨.bool true, [Z0, Z1, Z2, Z3, .cells [] 1 false true, .cells [] 1 false true], [4, 5], []⟩ := by
  have e := r20_0  
  have hm : ∀ q : Nat, 30 < q → reach [Z0, Z1, Z2, Z3, .cells [] 1 false true, .cells [] 1 false true] 0 q [4, 5] [] = [4, 5] := by
    intro q hq
    obtain ⟨q, rfl⟩ : ∃ j, q = j + 30 := ⟨q - 30, by omega⟩
    simp [reach_cons, reachC_t, reachC_f, reach_nil, rootsB, GE.mem, nblt, nbeq, ptrB, ptrT, ptrV_ptr, ptrV_sl, ptrV_int, ptrV_func, ptrFn, ptrL, dep]
  have hpp : ([sl 4 0 0 0, sl 5 0 0 0] : List Value).flatMap (ptrV dep) = [4, 5] := rfl
  refine callH_of (by intro _; first | trivial | rfl) ?_ (by simp)
  unfold callH0
  simp only [hpp, hm reachN (by decide)]
  simp [optAll, renV_func, renFn, renL, renV_ptr, renV_agg, dep, idx, nbeq, renB, renT, renL_eq, renV_int, renV_sl, e, mergeB, renV_tuple, renV_bool, nblt]
section
variable (q1 q2 : List Int) (h1 : q1.length ≤ 60) (h2 : q2.length ≤ 60)
include h1 h2
theorem l20_2_2 : lpB Try.prog LL ⟨20, 27, 6, none⟩ n20_14 n20_15 ⟨[(0, sl 0 0 2 2), (1, sl 3 0 2 2), (5, iv 2)], [.cells [sl 1 0 q1.length q1.length, sl 2 0 q2.length q2.length] 1 false true, zB q1, zB q2, .cells [sl 4 0 q1.length q1.length, sl 5 0 q2.length q2.length] 1 false true, zB q1, zB q2], []⟩ = some (.exit 0, ⟨[], [.cells [sl 1 0 q1.length q1.length, sl 2 0 q2.length q2.length] 1 false true, zB q1, zB q2, .cells [sl 4 0 q1.length q1.length, sl 5 0 q2.length q2.length] 1 false true, zB q1, zB q2], []⟩) := by
  simp only [zB]
  generalize zm q1 = M1 at *
  generalize zm q2 = M2 at *
  rw [lpB_eq]
  simp (maxSteps := 1000000) (disch := first | omega | decide | assumption | simp [scal]) [lenA_sl lk_31, o_indexAddrS es_31, loadA_eq ia_22]
theorem l20_2_1 : lpB Try.prog LL ⟨20, 27, 6, none⟩ n20_14 n20_15 ⟨[(0, sl 0 0 2 2), (1, sl 3 0 2 2), (5, iv 1)], [.cells [sl 1 0 q1.length q1.length, sl 2 0 q2.length q2.length] 1 false true, zB q1, zB q2, .cells [sl 4 0 q1.length q1.length, sl 5 0 q2.length q2.length] 1 false true, zB q1, zB q2], []⟩ = some (.exit 0, ⟨[], [.cells [sl 1 0 q1.length q1.length, sl 2 0 q2.length q2.length] 1 false true, zB q1, zB q2, .cells [sl 4 0 q1.length q1.length, sl 5 0 q2.length q2.length] 1 false true, zB q1, zB q2], []⟩) := by
  have this := l20_2_2 q1 q2 h1 h2
  have a19 := k19 2 5 q2.length q2.length (p := q2) (h := [.cells [sl 1 0 q1.length q1.length, sl 2 0 q2.length q2.length] 1 false true, zB q1, zB q2, .cells [sl 4 0 q1.length q1.length, sl 5 0 q2.length q2.length] 1 false true, zB q1, zB q2]) rfl rfl (by decide) PoC_zm PoC_zm h2
  simp only [zB] at this a19 ⊢
  generalize zm q1 = M1 at *
  generalize zm q2 = M2 at *
  rw [lpB_eq]
  simp (maxSteps := 1000000) (disch := first | omega | decide | assumption | simp [scal]) [lenA_sl lk_31, o_indexAddrS es_31, loadA_eq ia_22, a19, this]
theorem l20_2_0 : lpB Try.prog LL ⟨20, 27, 6, none⟩ n20_14 n20_15 ⟨[(0, sl 0 0 2 2), (1, sl 3 0 2 2), (5, iv 0)], [.cells [sl 1 0 q1.length q1.length, sl 2 0 q2.length q2.length] 1 false true, zB q1, zB q2, .cells [sl 4 0 q1.length q1.length, sl 5 0 q2.length q2.length] 1 false true, zB q1, zB q2], []⟩ = some (.exit 0, ⟨[], [.cells [sl 1 0 q1.length q1.length, sl 2 0 q2.length q2.length] 1 false true, zB q1, zB q2, .cells [sl 4 0 q1.length q1.length, sl 5 0 q2.length q2.length] 1 false true, zB q1, zB q2], []⟩) := by
  have this := l20_2_1 q1 q2 h1 h2
  have a19 := k19 1 4 q1.length q1.length (p := q1) (h := [.cells [sl 1 0 q1.length q1.length, sl 2 0 q2.length q2.length] 1 false true, zB q1, zB q2, .cells [sl 4 0 q1.length q1.length, sl 5 0 q2.length q2.length] 1 false true, zB q1, zB q2]) rfl rfl (by decide) PoC_zm PoC_zm h1
  simp only [zB] at this a19 ⊢
  generalize zm q1 = M1 at *
  generalize zm q2 = M2 at *
  rw [lpB_eq]
  simp (maxSteps := 1000000) (disch := first | omega | decide | assumption | simp [scal]) [lenA_sl lk_31, o_indexAddrS es_31, loadA_eq ia_22, a19, this]
theorem r20_2 : LL.run 20 [sl 0 0 2 2, sl 3 0 2 2] [.cells [sl 1 0 q1.length q1.length, sl 2 0 q2.length q2.length] 1 false true, zB q1, zB q2, .cells [sl 4 0 q1.length q1.length, sl 5 0 q2.length q2.length] 1 false true, zB q1, zB q2] = some ⟨.bool true, [], []⟩ := by
  refine go (by decide) ?_
  have lp := l20_2_0 q1 q2 h1 h2
  simp only [zB] at lp ⊢
  generalize zm q1 = M1 at *
  generalize zm q2 = M2 at *
  rw [run20 _ _ _ (by simp)]
  simp (maxSteps := 1000000) (disch := first | omega | decide | assumption | simp [scal]) [lenA_sl lk_31, o_indexAddrS es_31, loadA_eq ia_22, lp]
theorem h20_2 (Z0 Z1 Z2 Z3 : Blk) : callH LL 20 [sl 4 0 2 2, sl 7 0 2 2] [Z0, Z1, Z2, Z3, .cells [sl 5 0 q1.length q1.length, sl 6 0 q2.length q2.length] 1 false true, zB q1, zB q2, .cells [sl 8 0 q1.length q1.length, sl 9 0 q2.length q2.length] 1 false true, zB q1, zB q2] = some ⟨.bool true, [Z0, Z1, Z2, Z3, .cells [sl 5 0 q1.length q1.length, sl 6 0 q2.length q2.length] 1 false true, zB q1, zB q2, .cells [sl 8 0 q1.length q1.length, sl 9 0 q2.length q2.length] 1 false true, zB q1, zB q2], [4, 5, 6, 7, 8, 9], []⟩ := by
  have e := r20_2 q1 q2 h1 h2
  simp only [zB] at e ⊢
  have hm : ∀ q : Nat, 30 < q → reach [Z0, Z1, Z2, Z3, .cells [sl 5 0 q1.length q1.length, sl 6 0 q2.length q2.length] 1 false true, .cells (zm q1) 1 true true, .cells (zm q2) 1 true true, .cells [sl 8 0 q1.length q1.length, sl 9 0 q2.length q2.length] 1 false true, .cells (zm q1) 1 true true, .cells (zm q2) 1 true true] 0 q [4, 7] [] = [4, 5, 6, 7, 8, 9] := by
    intro q hq
    obtain ⟨q, rfl⟩ : ∃ j, q = j + 30 := ⟨q - 30, by omega⟩
    simp [reach_cons, reachC_t, reachC_f, reach_nil, rootsB, GE.mem, nblt, nbeq, ptrB, ptrT, ptrV_ptr, ptrV_sl, ptrV_int, ptrV_func, ptrFn, ptrL, dep]
  have hpp : ([sl 4 0 2 2, sl 7 0 2 2] : List Value).flatMap (ptrV dep) = [4, 7] := rfl
  refine callH_of (by intro _; first | trivial | rfl) ?_ (by simp)
  unfold callH0
  simp only [hpp, hm reachN (by decide)]
  simp [optAll, renV_func, renFn, renL, renV_ptr, renV_agg, dep, idx, nbeq, renB, renT, renL_eq, renV_int, renV_sl, e, mergeB, renV_tuple, renV_bool, nblt]
end
section
variable (q1 q2 q3 : List Int) (h1 : q1.length ≤ 60) (h2 : q2.length ≤ 60) (h3 : q3.length ≤ 60)
include h1 h2 h3
theorem l20_3_3 : lpB Try.prog LL ⟨20, 27, 8, none⟩ n20_14 n20_15 ⟨[(0, sl 0 0 3 3), (1, sl 4 0 3 3), (5, iv 3)], [.cells [sl 1 0 q1.length q1.length, sl 2 0 q2.length q2.length, sl 3 0 q3.length q3.length] 1 false true, zB q1, zB q2, zB q3, .cells [sl 5 0 q1.length q1.length, sl 6 0 q2.length q2.length, sl 7 0 q3.length q3.length] 1 false true, zB q1, zB q2, zB q3], []⟩ = some (.exit 0, ⟨[], [.cells [sl 1 0 q1.length q1.length, sl 2 0 q2.length q2.length, sl 3 0 q3.length q3.length] 1 false true, zB q1, zB q2, zB q3, .cells [sl 5 0 q1.length q1.length, sl 6 0 q2.length q2.length, sl 7 0 q3.length q3.length] 1 false true, zB q1, zB q2, zB q3], []⟩) := by
  simp only [zB]
  generalize zm q1 = M1 at *
  generalize zm q2 = M2 at *
  generalize zm q3 = M3 at *
  rw [lpB_eq]
  simp (maxSteps := 1000000) (disch := first | omega | decide | assumption | simp [scal]) [lenA_sl lk_31, o_indexAddrS es_31, loadA_eq ia_22]
theorem l20_3_2 : lpB Try.prog LL ⟨20, 27, 8, none⟩ n20_14 n20_15 ⟨[(0, sl 0 0 3 3), (1, sl 4 0 3 3), (5, iv 2)], [.cells [sl 1 0 q1.length q1.length, sl 2 0 q2.length q2.length, sl 3 0 q3.length q3.length] 1 false true, zB q1, zB q2, zB q3, .cells [sl 5 0 q1.length q1.length, sl 6 0 q2.length q2.length, sl 7 0 q3.length q3.length] 1 false true, zB q1, zB q2, zB q3], []⟩ = some (.exit 0, ⟨[], [.cells [sl 1 0 q1.length q1.length, sl 2 0 q2.length q2.length, sl 3 0 q3.length q3.length] 1 false true, zB q1, zB q2, zB q3, .cells [sl 5 0 q1.length q1.length, sl 6 0 q2.length q2.length, sl 7 0 q3.length q3.length] 1 false true, zB q1, zB q2, zB q3], []⟩) := by
  have this := l20_3_3 q1 q2 q3 h1 h2 h3
  have a19 := k19 3 7 q3.length q3.length (p := q3) (h := [.cells [sl 1 0 q1.length q1.length, sl 2 0 q2.length q2.length, sl 3 0 q3.length q3.length] 1 false true, zB q1, zB q2, zB q3, .cells [sl 5 0 q1.length q1.length, sl 6 0 q2.length q2.length, sl 7 0 q3.length q3.length] 1 false true, zB q1, zB q2, zB q3]) rfl rfl (by decide) PoC_zm PoC_zm h3
  simp only [zB] at this a19 ⊢
  generalize zm q1 = M1 at *
  generalize zm q2 = M2 at *
  generalize zm q3 = M3 at *
  rw [lpB_eq]
  simp (maxSteps := 1000000) (disch := first | omega | decide | assumption | simp [scal]) [lenA_sl lk_31, o_indexAddrS es_31, loadA_eq ia_22, a19, this]
theorem l20_3_1 : lpB Try.prog LL ⟨20, 27, 8, none⟩ n20_14 n20_15 ⟨[(0, sl 0 0 3 3), (1, sl 4 0 3 3), (5, iv 1)], [.cells [sl 1 0 q1.length q1.length, sl 2 0 q2.length q2.length, sl 3 0 q3.length q3.length] 1 false true, zB q1, zB q2, zB q3, .cells [sl 5 0 q1.length q1.length, sl 6 0 q2.length q2.length, sl 7 0 q3.length q3.length] 1 false true, zB q1, zB q2, zB q3], []⟩ = some (.exit 0, ⟨[], [.cells [sl 1 0 q1.length q1.length, sl 2 0 q2.length q2.length, sl 3 0 q3.length q3.length] 1 false true, zB q1, zB q2, zB q3, .cells [sl 5 0 q1.length q1.length, sl 6 0 q2.length q2.length, sl 7 0 q3.length q3.length] 1 false true, zB q1, zB q2, zB q3], []⟩) := by
  have this := l20_3_2 q1 q2 q3 h1 h2 h3
  have a19 := k19 2 6 q2.length q2.length (p := q2) (h := [.cells [sl 1 0 q1.length q1.length, sl 2 0 q2.length q2.length, sl 3 0 q3.length q3.length] 1 false true, zB q1, zB q2, zB q3, .cells [sl 5 0 q1.length q1.length, sl 6 0 q2.length q2.length, sl 7 0 q3.length q3.length] 1 false true, zB q1, zB q2, zB q3]) rfl rfl (by decide) PoC_zm PoC_zm h2
  simp only [zB] at this a19 ⊢
  generalize zm q1 = M1 at *
  generalize zm q2 = M2 at *
  generalize zm q3 = M3 at *
  rw [lpB_eq]
  simp (maxSteps := 1000000) (disch := first | omega | decide | assumption | simp [scal]) [lenA_sl lk_31, o_indexAddrS es_31, loadA_eq ia_22, a19, this]
theorem l20_3_0 : lpB Try.prog LL ⟨20, 27, 8, none⟩ n20_14 n20_15 ⟨[(0, sl 0 0 3 3), (1, sl 4 0 3 3), (5, iv 0)], [.cells [sl 1 0 q1.length q1.length, sl 2 0 q2.length q2.length, sl 3 0 q3.length q3.length] 1 false true, zB q1, zB q2, zB q3, .cells [sl 5 0 q1.length q1.length, sl 6 0 q2.length q2.length, sl 7 0 q3.length q3.length] 1 false true, zB q1, zB q2, zB q3], []⟩ = some (.exit 0, ⟨[], [.cells [sl 1 0 q1.length q1.length, sl 2 0 q2.length q2.length, sl 3 0 q3.length q3.length] 1 false true, zB q1, zB q2, zB q3, .cells [sl 5 0 q1.length q1.length, sl 6 0 q2.length q2.length, sl 7 0 q3.length q3.length] 1 false true, zB q1, zB q2, zB q3], []⟩) := by
  have this := l20_3_1 q1 q2 q3 h1 h2 h3
  have a19 := k19 1 5 q1.length q1.length (p := q1) (h := [.cells [sl 1 0 q1.length q1.length, sl 2 0 q2.length q2.length, sl 3 0 q3.length q3.length] 1 false true, zB q1, zB q2, zB q3, .cells [sl 5 0 q1.length q1.length, sl 6 0 q2.length q2.length, sl 7 0 q3.length q3.length] 1 false true, zB q1, zB q2, zB q3]) rfl rfl (by decide) PoC_zm PoC_zm h1
  simp only [zB] at this a19 ⊢
  generalize zm q1 = M1 at *
  generalize zm q2 = M2 at *
  generalize zm q3 = M3 at *
  rw [lpB_eq]
  simp (maxSteps := 1000000) (disch := first | omega | decide | assumption | simp [scal]) [lenA_sl lk_31, o_indexAddrS es_31, loadA_eq ia_22, a19, this]
theorem r20_3 : LL.run 20 [sl 0 0 3 3, sl 4 0 3 3] [.cells [sl 1 0 q1.length q1.length, sl 2 0 q2.length q2.length, sl 3 0 q3.length q3.length] 1 false true, zB q1, zB q2, zB q3, .cells [sl 5 0 q1.length q1.length, sl 6 0 q2.length q2.length, sl 7 0 q3.length q3.length] 1 false true, zB q1, zB q2, zB q3] = some ⟨.bool true, [], []⟩ := by
  refine go (by decide) ?_
  have lp := l20_3_0 q1 q2 q3 h1 h2 h3
  simp only [zB] at lp ⊢
  generalize zm q1 = M1 at *
  generalize zm q2 = M2 at *
  generalize zm q3 = M3 at *
  rw [run20 _ _ _ (by simp)]
  simp (maxSteps := 1000000) (disch := first | omega | decide | assumption | simp [scal]) [lenA_sl lk_31, o_indexAddrS es_31, loadA_eq ia_22, lp]
theorem h20_3 (Z0 Z1 Z2 Z3 : Blk) : callH LL 20 [sl 4 0 3 3, sl 8 0 3 3] [Z0, Z1, Z2, Z3, .cells [sl 5 0 q1.length q1.length, sl 6 0 q2.length q2.length, sl 7 0 q3.length q3.length] 1 false true, zB q1, zB q2, zB q3, .cells [sl 9 0 q1.length q1.length, sl 10 0 q2.length q2.length, sl 11 0 q3.length q3.length] 1 false true, zB q1, zB q2, zB q3] = some ⟨.bool true, [Z0, Z1, Z2, Z3, .cells [sl 5 0 q1.length q1.length, sl 6 0 q2.length q2.length, sl 7 0 q3.length q3.length] 1 false true, zB q1, zB q2, zB q3, .cells [sl 9 0 q1.length q1.length, sl 10 0 q2.length q2.length, sl 11 0 q3.length q3.length] 1 false true, zB q1, zB q2, zB q3], [4, 5, 6, 7, 8, 9, 10, 11], []⟩ := by
  have e := r20_3 q1 q2 q3 h1 h2 h3
  simp only [zB] at e ⊢
  have hm : ∀ q : Nat, 30 < q → reach [Z0, Z1, Z2, Z3, .cells [sl 5 0 q1.length q1.length, sl 6 0 q2.length q2.length, sl 7 0 q3.length q3.length] 1 false true, .cells (zm q1) 1 true true, .cells (zm q2) 1 true true, .cells (zm q3) 1 true true, .cells [sl 9 0 q1.length q1.length, sl 10 0 q2.length q2.length, sl 11 0 q3.length q3.length] 1 false true, .cells (zm q1) 1 true true, .cells (zm q2) 1 true true, .cells (zm q3) 1 true true] 0 q [4, 8] [] = [4, 5, 6, 7, 8, 9, 10, 11] := by
    intro q hq
    obtain ⟨q, rfl⟩ : ∃ j, q = j + 30 := ⟨q - 30, by omega⟩
    simp [reach_cons, reachC_t, reachC_f, reach_nil, rootsB, GE.mem, nblt, nbeq, ptrB, ptrT, ptrV_ptr, ptrV_sl, ptrV_int, ptrV_func, ptrFn, ptrL, dep]
  have hpp : ([sl 4 0 3 3, sl 8 0 3 3] : List Value).flatMap (ptrV dep) = [4, 8] := rfl
  refine callH_of (by intro _; first | trivial | rfl) ?_ (by simp)
  unfold callH0
  simp only [hpp, hm reachN (by decide)]
  simp [optAll, renV_func, renFn, renL, renV_ptr, renV_agg, dep, idx, nbeq, renB, renT, renL_eq, renV_int, renV_sl, e, mergeB, renV_tuple, renV_bool, nblt]
end
section
variable (q1 q2 q3 q4 : List Int) (h1 : q1.length ≤ 60) (h2 : q2.length ≤ 60) (h3 : q3.length ≤ 60) (h4 : q4.length ≤ 60)
include h1 h2 h3 h4
theorem l20_4_4 : lpB Try.prog LL ⟨20, 27, 10, none⟩ n20_14 n20_15 ⟨[(0, sl 0 0 4 4), (1, sl 5 0 4 4), (5, iv 4)], [.cells [sl 1 0 q1.length q1.length, sl 2 0 q2.length q2.length, sl 3 0 q3.length q3.length, sl 4 0 q4.length q4.length] 1 false true, zB q1, zB q2, zB q3, zB q4, .cells [sl 6 0 q1.length q1.length, sl 7 0 q2.length q2.length, sl 8 0 q3.length q3.length, sl 9 0 q4.length q4.length] 1 false true, zB q1, zB q2, zB q3, zB q4], []⟩ = some (.exit 0, ⟨[], [.cells [sl 1 0 q1.length q1.length, sl 2 0 q2.length q2.length, sl 3 0 q3.length q3.length, sl 4 0 q4.length q4.length] 1 false true, zB q1, zB q2, zB q3, zB q4, .cells [sl 6 0 q1.length q1.length, sl 7 0 q2.length q2.length, sl 8 0 q3.length q3.length, sl 9 0 q4.length q4.length] 1 false true, zB q1, zB q2, zB q3, zB q4], []⟩) := by
  simp only [zB]
  generalize zm q1 = M1 at *
  generalize zm q2 = M2 at *
  generalize zm q3 = M3 at *
  generalize zm q4 = M4 at *
  rw [lpB_eq]
  simp (maxSteps := 1000000) (disch := first | omega | decide | assumption | simp [scal]) [lenA_sl lk_31, o_indexAddrS es_31, loadA_eq ia_22]
theorem l20_4_3 : lpB Try.prog LL ⟨20, 27, 10, none⟩ n20_14 n20_15 ⟨[(0, sl 0 0 4 4), (1, sl 5 0 4 4), (5, iv 3)], [.cells [sl 1 0 q1.length q1.length, sl 2 0 q2.length q2.length, sl 3 0 q3.length q3.length, sl 4 0 q4.length q4.length] 1 false true, zB q1, zB q2, zB q3, zB q4, .cells [sl 6 0 q1.length q1.length, sl 7 0 q2.length q2.length, sl 8 0 q3.length q3.length, sl 9 0 q4.length q4.length] 1 false true, zB q1, zB q2, zB q3, zB q4], []⟩ = some (.exit 0, ⟨[], [.cells [sl 1 0 q1.length q1.length, sl 2 0 q2.length q2.length, sl 3 0 q3.length q3.length, sl 4 0 q4.length q4.length] 1 false true, zB q1, zB q2, zB q3, zB q4, .cells [sl 6 0 q1.length q1.length, sl 7 0 q2.length q2.length, sl 8 0 q3.length q3.length, sl 9 0 q4.length q4.length] 1 false true, zB q1, zB q2, zB q3, zB q4], []⟩) := by
  have this := l20_4_4 q1 q2 q3 q4 h1 h2 h3 h4
  have a19 := k19 4 9 q4.length q4.length (p := q4) (h := [.cells [sl 1 0 q1.length q1.length, sl 2 0 q2.length q2.length, sl 3 0 q3.length q3.length, sl 4 0 q4.length q4.length] 1 false true, zB q1, zB q2, zB q3, zB q4, .cells [sl 6 0 q1.length q1.length, sl 7 0 q2.length q2.length, sl 8 0 q3.length q3.length, sl 9 0 q4.length q4.length] 1 false true, zB q1, zB q2, zB q3, zB q4]) rfl rfl (by decide) PoC_zm PoC_zm h4
  simp only [zB] at this a19 ⊢
  generalize zm q1 = M1 at *
  generalize zm q2 = M2 at *
  generalize zm q3 = M3 at *
  generalize zm q4 = M4 at *
  rw [lpB_eq]
  simp (maxSteps := 1000000) (disch := first | omega | decide | assumption | simp [scal]) [lenA_sl lk_31, o_indexAddrS es_31, loadA_eq ia_22, a19, this]
theorem l20_4_2 : lpB Try.prog LL ⟨20, 27, 10, none⟩ n20_14 n20_15 ⟨[(0, sl 0 0 4 4), (1, sl 5 0 4 4), (5, iv 2)], [.cells [sl 1 0 q1.length q1.length, sl 2 0 q2.length q2.length, sl 3 0 q3.length q3.length, sl 4 0 q4.length q4.length] 1 false true, zB q1, zB q2, zB q3, zB q4, .cells [sl 6 0 q1.length q1.length, sl 7 0 q2.length q2.length, sl 8 0 q3.length q3.length, sl 9 0 q4.length q4.length] 1 false true, zB q1, zB q2, zB q3, zB q4], []⟩ = some (.exit 0, ⟨[], [.cells [sl 1 0 q1.length q1.length, sl 2 0 q2.length q2.length, sl 3 0 q3.length q3.length, sl 4 0 q4.length q4.length] 1 false true, zB q1, zB q2, zB q3, zB q4, .cells [sl 6 0 q1.length q1.length, sl 7 0 q2.length q2.length, sl 8 0 q3.length q3.length, sl 9 0 q4.length q4.length] 1 false true, zB q1, zB q2, zB q3, zB q4], []⟩) := by
  have this := l20_4_3 q1 q2 q3 q4 h1 h2 h3 h4
  have a19 := k19 3 8 q3.length q3.length (p := q3) (h := [.cells [sl 1 0 q1.length q1.length, sl 2 0 q2.length q2.length, sl 3 0 q3.length q3.length, sl 4 0 q4.length q4.length] 1 false true, zB q1, zB q2, zB q3, zB q4, .cells [sl 6 0 q1.length q1.length, sl 7 0 q2.length q2.length, sl 8 0 q3.length q3.length, sl 9 0 q4.length q4.length] 1 false true, zB q1, zB q2, zB q3, zB q4]) rfl rfl (by decide) PoC_zm PoC_zm h3
  simp only [zB] at this a19 ⊢
  generalize zm q1 = M1 at *
  generalize zm q2 = M2 at *
  generalize zm q3 = M3 at *
  generalize zm q4 = M4 at *
  rw [lpB_eq]
  simp (maxSteps := 1000000) (disch := first | omega | decide | assumption | simp [scal]) [lenA_sl lk_31, o_indexAddrS es_31, loadA_eq ia_22, a19, this]
theorem l20_4_1 : lpB Try.prog LL ⟨20, 27, 10, none⟩ n20_14 n20_15 ⟨[(0, sl 0 0 4 4), (1, sl 5 0 4 4), (5, iv 1)], [.cells [sl 1 0 q1.length q1.length, sl 2 0 q2.length q2.length, sl 3 0 q3.length q3.length, sl 4 0 q4.length q4.length] 1 false true, zB q1, zB q2, zB q3, zB q4, .cells [sl 6 0 q1.length q1.length, sl 7 0 q2.length q2.length, sl 8 0 q3.length q3.length, sl 9 0 q4.length q4.length] 1 false true, zB q1, zB q2, zB q3, zB q4], []⟩ = some (.exit 0, ⟨[], [.cells [sl 1 0 q1.length q1.length, sl 2 0 q2.length q2.length, sl 3 0 q3.length q3.length, sl 4 0 q4.length q4.length] 1 false true, zB q1, zB q2, zB q3, zB q4, .cells [sl 6 0 q1.length q1.length, sl 7 0 q2.length q2.length, sl 8 0 q3.length q3.length, sl 9 0 q4.length q4.length] 1 false true, zB q1, zB q2, zB q3, zB q4], []⟩) := by
  have this := l20_4_2 q1 q2 q3 q4 h1 h2 h3 h4
  have a19 := k19 2 7 q2.length q2.length (p := q2) (h := [.cells [sl 1 0 q1.length q1.length, sl 2 0 q2.length q2.length, sl 3 0 q3.length q3.length, sl 4 0 q4.length q4.length] 1 false true, zB q1, zB q2, zB q3, zB q4, .cells [sl 6 0 q1.length q1.length, sl 7 0 q2.length q2.length, sl 8 0 q3.length q3.length, sl 9 0 q4.length q4.length] 1 false true, zB q1, zB q2, zB q3, zB q4]) rfl rfl (by decide) PoC_zm PoC_zm h2
  simp only [zB] at this a19 ⊢
  generalize zm q1 = M1 at *
  generalize zm q2 = M2 at *
  generalize zm q3 = M3 at *
  generalize zm q4 = M4 at *
  rw [lpB_eq]
  simp (maxSteps := 1000000) (disch := first | omega | decide | assumption | simp [scal]) [lenA_sl lk_31, o_indexAddrS es_31, loadA_eq ia_22, a19, this]
theorem l20_4_0 : lpB Try.prog LL ⟨20, 27, 10, none⟩ n20_14 n20_15 ⟨[(0, sl 0 0 4 4), (1, sl 5 0 4 4), (5, iv 0)], [.cells [sl 1 0 q1.length q1.length, sl 2 0 q2.length q2.length, sl 3 0 q3.length q3.length, sl 4 0 q4.length q4.length] 1 false true, zB q1, zB q2, zB q3, zB q4, .cells [sl 6 0 q1.length q1.length, sl 7 0 q2.length q2.length, sl 8 0 q3.length q3.length, sl 9 0 q4.length q4.length] 1 false true, zB q1, zB q2, zB q3, zB q4], []⟩ = some (.exit 0, ⟨[], [.cells [sl 1 0 q1.length q1.length, sl 2 0 q2.length q2.length, sl 3 0 q3.length q3.length, sl 4 0 q4.length q4.length] 1 false true, zB q1, zB q2, zB q3, zB q4, .cells [sl 6 0 q1.length q1.length, sl 7 0 q2.length q2.length, sl 8 0 q3.length q3.length, sl 9 0 q4.length q4.length] 1 false true, zB q1, zB q2, zB q3, zB q4], []⟩) := by
  have this := l20_4_1 q1 q2 q3 q4 h1 h2 h3 h4
  have a19 := k19 1 6 q1.length q1.length (p := q1) (h := [.cells [sl 1 0 q1.length q1.length, sl 2 0 q2.length q2.length, sl 3 0 q3.length q3.length, sl 4 0 q4.length q4.length] 1 false true, zB q1, zB q2, zB q3, zB q4, .cells [sl 6 0 q1.length q1.length, sl 7 0 q2.length q2.length, sl 8 0 q3.length q3.length, sl 9 0 q4.length q4.length] 1 false true, zB q1, zB q2, zB q3, zB q4]) rfl rfl (by decide) PoC_zm PoC_zm h1
  simp only [zB] at this a19 ⊢
  generalize zm q1 = M1 at *
  generalize zm q2 = M2 at *
  generalize zm q3 = M3 at *
  generalize zm q4 = M4 at *
  rw [lpB_eq]
  simp (maxSteps := 1000000) (disch := first | omega | decide | assumption | simp [scal]) [lenA_sl lk_31, o_indexAddrS es_31, loadA_eq ia_22, a19, this]
theorem r20_4 : LL.run 20 [sl 0 0 4 4, sl 5 0 4 4] [.cells [sl 1 0 q1.length q1.length, sl 2 0 q2.length q2.length, sl 3 0 q3.length q3.length, sl 4 0 q4.length q4.length] 1 false true, zB q1, zB q2, zB q3, zB q4, .cells [sl 6 0 q1.length q1.length, sl 7 0 q2.length q2.length, sl 8 0 q3.length q3.length, sl 9 0 q4.length q4.length] 1 false true, zB q1, zB q2, zB q3, zB q4] = some ⟨.bool true, [], []⟩ := by
  refine go (by decide) ?_
  have lp := l20_4_0 q1 q2 q3 q4 h1 h2 h3 h4
  simp only [zB] at lp ⊢
  generalize zm q1 = M1 at *
  generalize zm q2 = M2 at *
  generalize zm q3 = M3 at *
  generalize zm q4 = M4 at *
  rw [run20 _ _ _ (by simp)]
  simp (maxSteps := 1000000) (disch := first | omega | decide | assumption | simp [scal]) [lenA_sl lk_31, o_indexAddrS es_31, loadA_eq ia_22, lp]
theorem h20_4 (Z0 Z1 Z2 Z3 : Blk) : callH LL 20 [sl 4 0 4 4, sl 9 0 4 4] [Z0, Z1, Z2, Z3, .cells [sl 5 0 q1.length q1.length, sl 6 0 q2.length q2.length, sl 7 0 q3.length q3.length, sl 8 0 q4.length q4.length] 1 false true, zB q1, zB q2, zB q3, zB q4, .cells [sl 10 0 q1.length q1.length, sl 11 0 q2.length q2.length, sl 12 0 q3.length q3.length, sl 13 0 q4.length q4.length] 1 false true, zB q1, zB q2, zB q3, zB q4] = some ⟨.bool true, [Z0, Z1, Z2, Z3, .cells [sl 5 0 q1.length q1.length, sl 6 0 q2.length q2.length, sl 7 0 q3.length q3.length, sl 8 0 q4.length q4.length] 1 false true, zB q1, zB q2, zB q3, zB q4, .cells [sl 10 0 q1.length q1.length, sl 11 0 q2.length q2.length, sl 12 0 q3.length q3.length, sl 13 0 q4.length q4.length] 1 false true, zB q1, zB q2, zB q3, zB q4], [4, 5, 6, 7, 8, 9, 10, 11, 12, 13], []⟩ := by
  have e := r20_4 q1 q2 q3 q4 h1 h2 h3 h4
  simp only [zB] at e ⊢
  have hm : ∀ q : Nat, 30 < q → reach [Z0, Z1, Z2, Z3, .cells [sl 5 0 q1.length q1.length, sl 6 0 q2.length q2.length, sl 7 0 q3.length q3.length, sl 8 0 q4.length q4.length] 1 false true, .cells (zm q1) 1 true true, .cells (zm q2) 1 true true, .cells (zm q3) 1 true true, .cells (zm q4) 1 true true, .cells [sl 10 0 q1.length q1.length, sl 11 0 q2.length q2.length, sl 12 0 q3.length q3.length, sl 13 0 q4.length q4.length] 1 false true, .cells (zm q1) 1 true true, .cells (zm q2) 1 true true, .cells (zm q3) 1 true true, .cells (zm q4) 1 true true] 0 q [4, 9] [] = [4, 5, 6, 7, 8, 9, 10, 11, 12, 13] := by
    intro q hq
    obtain ⟨q, rfl⟩ : ∃ j, q = j + 30 := ⟨q - 30, by omega⟩
    simp [reach_cons, reachC_t, reachC_f, reach_nil, rootsB, GE.mem, nblt, nbeq, ptrB, ptrT, ptrV_ptr, ptrV_sl, ptrV_int, ptrV_func, ptrFn, ptrL, dep]
  have hpp : ([sl 4 0 4 4, sl 9 0 4 4] : List Value).flatMap (ptrV dep) = [4, 9] := rfl
  refine callH_of (by intro _; first | trivial | rfl) ?_ (by simp)
  unfold callH0
  simp only [hpp, hm reachN (by decide)]
  simp [optAll, renV_func, renFn, renL, renV_ptr, renV_agg, dep, idx, nbeq, renB, renT, renL_eq, renV_int, renV_sl, e, mergeB, renV_tuple, renV_bool, nblt]
end
end Go.Proofs.Ytkmompbfcgjgmaa.nt
namespace Go.Proofs.Ytkmompbfcgjgmaa.nt
open Go.GE
set_option linter.unusedVariables false
set_option linter.unusedSimpArgs false
set_option linter.unusedSectionVars false
set_option maxRecDepth 100000
set_option maxHeartbeats 4000000
attribute [local simp] runOps_nil runOps_cons runOpsF_nil runOpsF_cons fstS_some fstF_some opStep_eq want_none oStep_true oStep_false fin_pure fin_read fin_alloc fin_write storeB wrN cellV addWr o_move o_assign o_pick o_alloc o_box o_load o_store o_nilCheck o_bin o_un o_extract o_callV o_callB o_callI callV_f callV_y callV_fc o_makeFunc partsA Instr.fill builtin_len builtin_max2 bin_add bin_sub bin_mul bin_quo bin_rem bin_lss bin_leq bin_gtr bin_geq bin_eql bin_neq un_neg un_not bin_shr bin_shl wrap_u64_id opd opds optAll putO nbeq nblt constOk isC ops sub cl cr co bodyOf thenS_normal thenS_ret thenS_exit thenS_goto afterN_normal afterN_ret afterN_exit afterN_goto condS_true condS_false blockS_normal blockS_ret blockS_exit blockS_goto headS normS normK_eq fixS_nil fixS_cons fix1 fixV emptyB keepO_nil keepO_cons roundC_normal roundC_exit roundC_ret roundC_goto sweep_eq sweepD rnm pickR pickW rootsB ptrT renT ptrFn renFn ptrB_flat ptrB_non renB_flat renB_non plainS_some drawS_some fpsOk disj unord range' dropTo enumT undef wrap_i64_id Value.cells mkCells ptrTo scal cellsAt rdN endS_ret resultsA Option.bind_some tupV finish reachN dep ptrL_eq ptrL renL_eq renL ptrV_bool ptrV_int ptrV_string ptrV_nilFunc ptrV_nilIface ptrV_nilPtr ptrV_ptr ptrV_nilSl ptrV_sl ptrV_iface ptrV_agg ptrV_tuple ptrV_func renV_bool renV_int renV_string renV_nilFunc renV_nilIface renV_nilPtr renV_ptr renV_nilSl renV_sl renV_iface renV_agg renV_tuple renV_func gotoS_goto gotoS_normal gotoS_exit gotoS_ret skip_seq sliceE bnd bndHi intOf optOpd keepT_nil keepT_cons keepC_t keepC_f lk_nil lk_cons lkC_t lkC_f has_nil has_cons hasC_t hasC_f rep_nil rep_cons repC_t repC_f put_eq putC_t putC_f mem_nil mem_cons memC_t memC_f idx_nil idx_cons idxC_t idxC_f reach_nil reachP_cons reachQ_t reachQ_f ptrB_dead renB_dead ins_eq
attribute [local simp] n3_1s n3_4s n3_7s n3_8s n3_6s n3_9s n3_5s n3_3s n3_11s n3_13s n3_15s n3_17s n3_19s n3_21s n3_23s n3_24s n3_22s n3_20s n3_18s n3_16s n3_14s n3_12s n3_10s n3_2s n3_0s Try.f3
theorem evB_gd {x y : Int} (hx : x.natAbs ≤ 100000) (hy : y.natAbs ≤ 1000) : ∀ (r : List Int) (k : Nat) (s w : Int), (∀ c, c ∈ r → c.natAbs ≤ 50) → k + r.length ≤ 3 → s.natAbs ≤ 50 * 101000 ^ k → w.natAbs ≤ 1000 * 1000 ^ k → evB x y r s w = true := by
  intro r
  induction r with
  | nil => intro k s w _ _ _ _; rfl
  | cons c r ih =>
    intro k s w hc hk hs hw
    have h1 := hc c (by simp)
    simp only [List.length_cons] at hk
    have hBA : 1000 ^ k ≤ 101000 ^ k := Nat.pow_le_pow_left (by decide) k
    have hL : 101000 ^ k ≤ 101000 ^ 2 := Nat.pow_le_pow_right (by decide) (by omega)
    have e0 : (101000 : Nat) ^ 2 = 10201000000 := rfl
    have m1 : (s * x).natAbs ≤ 50 * 101000 ^ k * 100000 := mulAB hs hx
    have m2 : (c * w).natAbs ≤ 50 * (1000 * 1000 ^ k) := mulAB h1 hw
    have m3 : (w * y).natAbs ≤ 1000 * 1000 ^ k * 1000 := mulAB hw hy
    have m4 := Int.natAbs_add_le (s * x) (c * w)
    have e1 : 101000 ^ (k + 1) = 101000 ^ k * 101000 := Nat.pow_succ ..
    have e2 : 1000 ^ (k + 1) = 1000 ^ k * 1000 := Nat.pow_succ ..
    have i := ih (k + 1) (s * x + c * w) (w * y) (fun d hd => hc d (by simp [hd])) (by omega) (by omega) (by omega)
    simp only [evB, i, Bool.and_true]
    unfold okI
    simp only [Bool.and_eq_true, decide_eq_true_eq]
    omega
theorem evB_good {x y : Int} {p : List Int} (hg : goodR x y = true) (h4 : p.length ≤ 4) (hB : BdL 50 p) : evB x y p.reverse 0 1 = true := by
  have g := good_bd hg
  have hm : ∀ c, c ∈ p.reverse → c.natAbs ≤ 50 := fun c hc => by
    obtain ⟨i, hi, rfl⟩ := List.getElem_of_mem (List.mem_reverse.1 hc)
    have := hB i
    rw [List.getD_eq_getElem?_getD, List.getElem?_eq_getElem hi] at this
    exact this
  have hl : p.reverse.length ≤ 4 := by rw [List.length_reverse]; exact h4
  cases hr : p.reverse with
  | nil => rfl
  | cons c r =>
    rw [hr] at hm hl
    simp only [List.length_cons] at hl
    have h1 := hm c (by simp)
    have i := evB_gd (x := x) (y := y) (by omega) (by omega) r 0 (0 * x + c * 1) (1 * y) (fun d hd => hm d (by simp [hd])) (by omega) (by simp; omega) (by simp; omega)
    simp only [evB, i, Bool.and_true]
    unfold okI
    simp only [Bool.and_eq_true, decide_eq_true_eq]
    omega
theorem chk_ok {p : List Int} (h : chkE p = 0) : 2 ≤ p.length ∧ p.length ≤ 4 ∧ BdL 50 p ∧ lst p ≠ 0 := by
  unfold chkE at h
  by_cases h1 : p.length = 0
  · rw [if_pos h1] at h; cases h
  rw [if_neg h1] at h
  by_cases h2 : 4 < p.length
  · rw [if_pos h2] at h; cases h
  rw [if_neg h2] at h
  by_cases h3 : p.any badC = true
  · rw [if_pos h3] at h; cases h
  rw [if_neg h3] at h
  by_cases h4 : p.length = 1 ∨ lst p = 0
  · rw [if_pos h4] at h; cases h
  refine ⟨by omega, by omega, fun i => ?_, fun e => h4 (.inr e)⟩
  by_cases hi : i < p.length
  · have hx : p.getD i 0 ∈ p := getD_mem hi
    have : badC (p.getD i 0) = false := by
      cases hb : badC (p.getD i 0)
      · rfl
      · exact absurd (List.any_eq_true.2 ⟨_, hx, hb⟩) h3
    unfold badC at this
    rw [Bool.or_eq_false_iff, decide_eq_false_iff_not, decide_eq_false_iff_not] at this
    omega
  · rw [getD_big (by omega)]; exact Nat.zero_le _
theorem cor_of_stu {p : List Int} (h : stuB p = true) : corB p = true := by
  unfold stuB at h
  simp only [Bool.and_eq_true] at h
  exact h.1.1.1.1
theorem chk_stu {p : List Int} (h : chkE p = 0) : stuB p = true ∧ lst p ≠ 0 := by
  obtain ⟨h1, h2, h3, h4⟩ := chk_ok h
  exact ⟨stuB_all h1 h2 h3 h4, h4⟩
theorem corR_len {p : List Int} : (corR p).length ≤ 60 := by
  unfold corR
  by_cases h : chkE p = 0
  · rw [if_pos h]
    have hB := (chk_stu h).1
    unfold stuB at hB
    simp only [Bool.and_eq_true] at hB
    exact Nat.le_of_ble_eq_true hB.1.1.2
  · rw [if_neg h]; decide
theorem stu_len60 {p : List Int} (h : stuB p = true) : ∀ q, q ∈ stu p → q.length ≤ 60 := by
  unfold stuB at h
  simp only [Bool.and_eq_true] at h
  obtain ⟨⟨⟨⟨c1, c2⟩, c3⟩, c4⟩, c5⟩ := h
  have c3 := Nat.le_of_ble_eq_true c3
  have hl : (lea (slp (cor p))).length ≤ 60 := Nat.le_trans lea_le (by rw [slp_len]; omega)
  rw [stu_eq]
  generalize lea (slp (cor p)) = l at *
  generalize cor p = C at *
  clear c1 c2 c4
  cases e1 : Nat.beq l.length 1
  · simp only [e1, cond_false, Bool.and_eq_true] at c5 ⊢
    obtain ⟨c5, c6⟩ := c5
    obtain ⟨t1, t2, t3, t4, t5, t6, t7⟩ := nxt_ok c5
    generalize nxt C l = r at *
    have hr : r.length ≤ 60 := by
      cases e2 : Nat.beq r.length 1
      · simp only [e2, cond_false, Bool.and_eq_true] at c6
        obtain ⟨u1, u2, u3, u4, u5, u6, u7⟩ := nxt_ok c6.1
        clear c6 u4 u5 t4 t5
        omega
      · have := Nat.eq_of_beq_eq_true e2
        omega
    cases e2 : Nat.beq r.length 1
    · simp only [e2, cond_false, Bool.and_eq_true] at c6 ⊢
      have h5 := Nat.eq_of_beq_eq_true c6.2
      generalize nxt l r = z at *
      clear c5 c6 t4 t5
      intro q hq
      simp only [List.mem_cons, List.not_mem_nil, or_false] at hq
      rcases hq with rfl | rfl | rfl | rfl <;> omega
    · simp only [cond_true]
      clear c5 c6 t4 t5
      intro q hq
      simp only [List.mem_cons, List.not_mem_nil, or_false] at hq
      rcases hq with rfl | rfl | rfl <;> omega
  · simp only [cond_true]
    clear c5
    intro q hq
    simp only [List.mem_cons, List.not_mem_nil, or_false] at hq
    rcases hq with rfl | rfl <;> omega
theorem signs_eq {x y : Int} (c : Nat) {cs : List Value} {own : Bool} {p : List Int} (hp : PoC cs p) (hl : p.length ≤ 20) : ∃ s e : Int, (∀ R, callH LL 13 [sl 0 0 p.length c, .agg #[iv x, iv y]] (.cells cs 1 true own :: R) = some ⟨.tuple #[iv s, iv e], .cells cs 1 true own :: R, [0], []⟩) ∧ ∀ R, callH LL 14 [sl 0 0 p.length c, .agg #[iv x, iv y]] (.cells cs 1 true own :: R) = some ⟨.tuple #[iv s, iv e], .cells cs 1 true own :: R, [0], []⟩ := by
  by_cases hE : chkE p = 0
  · obtain ⟨h1, h2, h3, h4⟩ := chk_ok hE
    cases hg : goodR x y
    · exact ⟨0, 1, fun R => k13g 0 c (h := .cells cs 1 true own :: R) rfl hp (by omega) hE x y hg, fun R => r14g 0 c (h := .cells cs 1 true own :: R) rfl hp (by omega) hE x y hg⟩
    · exact ⟨_, 0, fun R => k13o 0 c (h := .cells cs 1 true own :: R) rfl hp (by omega) hE (by omega) x y hg (evB_good hg h2 h3), fun R => r14o 0 c (h := .cells cs 1 true own :: R) rfl hp hE (by omega) h2 h3 x y hg⟩
  · exact ⟨0, _, fun R => k13e 0 c (h := .cells cs 1 true own :: R) rfl hp (by omega) hE x y, fun R => r14e 0 c (h := .cells cs 1 true own :: R) rfl hp (by omega) hE x y⟩
theorem c3s (c : Nat) {cs : List Value} {own : Bool} (n : Nat) (hn : 20 < n) (x y : Int) : LL.run 3 [sl 0 0 n c, .agg #[iv x, iv y]] [.cells cs 1 true own] = some ⟨.bool true, [], []⟩ := by
  refine go (by decide) ?_
  have h1 : (20 : Int) < n := by omega
  rw [run3 _ _ _ (by simp)]
  simp (maxSteps := 1000000) (disch := first | omega | decide | assumption | simp [scal]) [lenA_sl lk_22, loadA_eq ia_24, want_some q3_23g3, want_some q3_23g8, want_some q3_23g13, want_some q3_23g18, want_some q3_23g23, want_some q3_23g28, want_some q3_23g35, hn, h1, k12]
theorem c3l (c : Nat) {cs : List Value} {own : Bool} {p : List Int} (hp : PoC cs p) (hl : p.length ≤ 20) (x y : Int) : LL.run 3 [sl 0 0 p.length c, .agg #[iv x, iv y]] [.cells cs 1 true own] = some ⟨.bool true, [], []⟩ := by
  refine go (by decide) ?_
  have h1 : ¬ (20 : Int) < p.length := by omega
  have h2 : ¬ 20 < p.length := by omega
  obtain ⟨s, e, a13, a14⟩ := signs_eq (x := x) (y := y) c (own := own) hp hl
  have a21 := fun R => k21 0 c (h := .cells cs 1 true own :: R) rfl hp (by omega)
  have a22 := fun R => r22 0 c (h := .cells cs 1 true own :: R) rfl hp (by omega)
  have a15 := k15 0 c (h := [.cells cs 1 true own, bxR x y]) rfl hp (by omega) (fun h => cor_of_stu (chk_stu h).1)
  have a16 := r16 0 c (h := [.cells cs 1 true own, bxR x y, zB (corR p)]) rfl hp (by omega) (fun h => ⟨cor_of_stu (chk_stu h).1, (chk_stu h).2⟩)
  have a17 := k17 0 c (h := [.cells cs 1 true own, bxR x y, zB (corR p), zB (corR p)]) rfl hp (by omega) (fun h => (chk_stu h).1)
  have a18 := fun R => r18 0 c (h := .cells cs 1 true own :: R) rfl hp (by omega) (fun h => chk_stu h)
  have a19 := fun R => k19 2 3 (corR p).length (corR p).length (p := corR p) (h := .cells cs 1 true own :: bxR x y :: zB (corR p) :: zB (corR p) :: R) rfl rfl (by decide) PoC_zm PoC_zm corR_len
  have hS : stuR p = [] ∨ (∃ q1 q2, stuR p = [q1, q2] ∧ q1.length ≤ 60 ∧ q2.length ≤ 60) ∨ (∃ q1 q2 q3, stuR p = [q1, q2, q3] ∧ q1.length ≤ 60 ∧ q2.length ≤ 60 ∧ q3.length ≤ 60) ∨ ∃ q1 q2 q3 q4, stuR p = [q1, q2, q3, q4] ∧ q1.length ≤ 60 ∧ q2.length ≤ 60 ∧ q3.length ≤ 60 ∧ q4.length ≤ 60 := by
    unfold stuR
    by_cases hE : chkE p = 0
    · rw [if_pos hE]
      have hB := (chk_stu hE).1
      have hall := stu_len60 hB
      right
      rcases stu_cases hB with ⟨q1, q2, hq⟩ | ⟨q1, q2, q3, hq⟩ | ⟨q1, q2, q3, q4, hq⟩
      · rw [hq] at hall; exact .inl ⟨q1, q2, hq, hall q1 (by simp), hall q2 (by simp)⟩
      · rw [hq] at hall; exact .inr (.inl ⟨q1, q2, q3, hq, hall q1 (by simp), hall q2 (by simp), hall q3 (by simp)⟩)
      · rw [hq] at hall; exact .inr (.inr ⟨q1, q2, q3, q4, hq, hall q1 (by simp), hall q2 (by simp), hall q3 (by simp), hall q4 (by simp)⟩)
    · rw [if_neg hE]; exact .inl rfl
  generalize stuR p = S at *
  generalize corR p = C at *
  generalize chkE p = E at *
  clear hp hl
  simp only [zB] at a15 a16 a17 a18 a19
  generalize C.length = n1 at *
  generalize zm C = M0 at *
  rw [run3 _ _ _ (by simp)]
  rcases hS with rfl | ⟨q1, q2, rfl, f1, f2⟩ | ⟨q1, q2, q3, rfl, f1, f2, f3⟩ | ⟨q1, q2, q3, q4, rfl, f1, f2, f3, f4⟩
  · have a20 := h20_0 (.cells cs 1 true own) (bxR x y) (.cells M0 1 true true) (.cells M0 1 true true)
    simp only [stBk, stC, zB, List.map_cons, List.map_nil, List.length_cons, List.length_nil, Nat.reduceAdd, List.cons_append, List.nil_append] at a17 a18 a20
    simp (maxSteps := 1000000) (disch := first | omega | decide | assumption | simp [scal]) [lenA_sl lk_22, loadA_eq ia_24, want_some q3_23g3, want_some q3_23g8, want_some q3_23g13, want_some q3_23g18, want_some q3_23g23, want_some q3_23g28, want_some q3_23g35, h1, h2, a13, a14, a15, a16, a17, a18, a19, a20, a21, a22, k12]
  · have a20 := h20_2 q1 q2 f1 f2 (.cells cs 1 true own) (bxR x y) (.cells M0 1 true true) (.cells M0 1 true true)
    simp only [stBk, stC, zB, List.map_cons, List.map_nil, List.length_cons, List.length_nil, Nat.reduceAdd, List.cons_append, List.nil_append] at a17 a18 a20
    simp (maxSteps := 1000000) (disch := first | omega | decide | assumption | simp [scal]) [lenA_sl lk_22, loadA_eq ia_24, want_some q3_23g3, want_some q3_23g8, want_some q3_23g13, want_some q3_23g18, want_some q3_23g23, want_some q3_23g28, want_some q3_23g35, h1, h2, a13, a14, a15, a16, a17, a18, a19, a20, a21, a22, k12]
  · have a20 := h20_3 q1 q2 q3 f1 f2 f3 (.cells cs 1 true own) (bxR x y) (.cells M0 1 true true) (.cells M0 1 true true)
    simp only [stBk, stC, zB, List.map_cons, List.map_nil, List.length_cons, List.length_nil, Nat.reduceAdd, List.cons_append, List.nil_append] at a17 a18 a20
    simp (maxSteps := 1000000) (disch := first | omega | decide | assumption | simp [scal]) [lenA_sl lk_22, loadA_eq ia_24, want_some q3_23g3, want_some q3_23g8, want_some q3_23g13, want_some q3_23g18, want_some q3_23g23, want_some q3_23g28, want_some q3_23g35, h1, h2, a13, a14, a15, a16, a17, a18, a19, a20, a21, a22, k12]
  · have a20 := h20_4 q1 q2 q3 q4 f1 f2 f3 f4 (.cells cs 1 true own) (bxR x y) (.cells M0 1 true true) (.cells M0 1 true true)
    simp only [stBk, stC, zB, List.map_cons, List.map_nil, List.length_cons, List.length_nil, Nat.reduceAdd, List.cons_append, List.nil_append] at a17 a18 a20
    simp (maxSteps := 1000000) (disch := first | omega | decide | assumption | simp [scal]) [lenA_sl lk_22, loadA_eq ia_24, want_some q3_23g3, want_some q3_23g8, want_some q3_23g13, want_some q3_23g18, want_some q3_23g23, want_some q3_23g28, want_some q3_23g35, h1, h2, a13, a14, a15, a16, a17, a18, a19, a20, a21, a22, k12]
end Go.Proofs.Ytkmompbfcgjgmaa.nt
namespace Go.Proofs.Ytkmompbfcgjgmaa.nt
open Go.GE Go.ChangeShapes Go.WideShapes Go.RowKit
set_option linter.unusedVariables false
set_option linter.unusedSimpArgs false
set_option linter.unusedSectionVars false
set_option maxRecDepth 100000
set_option maxHeartbeats 4000000
theorem c3 (c : Nat) {cs : List Value} {own : Bool} {p : List Int} (hp : PoC cs p) (x y : Int) : LL.run 3 [sl 0 0 p.length c, .agg #[iv x, iv y]] [.cells cs 1 true own] = some ⟨.bool true, [], []⟩ := by
  by_cases h : p.length ≤ 20
  · exact c3l c hp h x y
  · exact c3s c p.length (by omega) x y
def poOf (zs : List (List Int)) : List Int := zs.map fun z => z.getD 0 0
theorem poOf_len {zs : List (List Int)} : (poOf zs).length = zs.length := by simp [poOf]
theorem po_flat {zs : List (List Int)} (h : ∀ z ∈ zs, wfs [.i64] z) : PoC (zs.flatMap (ints [.i64])) (poOf zs) := by
  have e : zs.flatMap (ints [.i64]) = zm (poOf zs) := by
    induction zs with
    | nil => rfl
    | cons z zs ih =>
      have h1 := (h z (by simp)).1
      match z, h1 with
      | [a], _ => rw [List.flatMap_cons, ih fun z hz => h z (by simp [hz])]; rfl
  rw [e]
  exact PoC_zm
section
variable {H : Type} {enc : TypeId × Value → H} {W : World} {base b0 : Nat} {v : Value} {d : DataW H} {p : List MemPlace}
theorem open_po (hv : Value.okWide Try.prog W .any b0 22 v) (hd : DataW.Trod enc Try.prog W base (fun _ => true) true 22 v d p) :
    ∃ (L : List Int) (cs : List Value) (mb : Option MB), WinO W mb (.cells cs 1 true false) ∧ (∀ (m : Mp) b, m b = mb → VR m (sl b 0 L.length L.length) v) ∧ PoC cs L := by
  obtain ⟨zs, mb, hw, hvr, hz, _⟩ := open_param_flat (ks := [.i64]) (d := 3) Try.underlying22 (by kernel_rfl) (by kernel_rfl) (by decide) hv hd
  exact ⟨poOf zs, _, mb, hw, by rw [poOf_len]; exact hvr, po_flat hz⟩
theorem open_ra (hv : Value.okWide Try.prog W .any b0 24 v) (hd : DataW.Trod enc Try.prog W base (fun _ => true) true 24 v d p) : ∃ x y : Int, v = .agg #[iv x, iv y] := by
  simp only [Value.okWide, Try.underlying24] at hv
  obtain ⟨cs, rfl, _, _⟩ := hv
  obtain ⟨fuel, hf⟩ := hd
  obtain ⟨zs, e, hw⟩ := open_flat 5 24 [.i64, .i64] fuel _ _ (by kernel_rfl) hf
  match zs, hw.1, e with
  | [x, y], _, e =>
    have e : cs.toList = [iv x, iv y] := e
    have hcs : cs = #[iv x, iv y] := by cases cs; exact congrArg Array.mk e
    exact ⟨x, y, by rw [hcs]⟩
theorem VR_ra {m : Mp} {x y : Int} : VR m (.agg #[iv x, iv y]) (.agg #[iv x, iv y]) := .agg (.cons (.int _ _) (.cons (.int _ _) .nil))
end
end Go.Proofs.Ytkmompbfcgjgmaa.nt
