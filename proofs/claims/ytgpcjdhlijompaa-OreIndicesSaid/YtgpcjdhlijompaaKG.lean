/-
  Contracts of functions of the program at the limit evaluator, continued. No condition.
-/

import Derived.Test.YtgpcjdhlijompaaKF
namespace Go.Proofs.Ytgpcjdhlijompaa.ore
open Go.GE
set_option linter.unusedVariables false
set_option linter.unusedSimpArgs false
set_option maxRecDepth 100000
theorem g38 : Try.prog.eqGuardType Try.prog.depth 38 = false := by kernel_rfl
theorem s38 : Try.prog.stoodInHeld 38 = false := by kernel_rfl
theorem i3 : ∃ i, Try.prog.info? 3 = some i := ⟨_, rfl⟩
theorem part3 (cs : Array Value) (o : Nat) : partA Try.prog 3 cs o = cs[o]? := by
  obtain ⟨i, hi⟩ := i3
  simp only [partA, Try.underlying3, hi]
theorem eq3 (d : Nat) (x y : Int) : eqA Try.prog (d + 1) 3 (iv x) (iv y) = some (decide (x = y)) := by
  simp only [eqA, Try.underlying3, if_true, ibeq]
theorem eq38 {cst : Bool} (a b c d : Int) : binA Try.prog .neq 38 cst (bv a b c d) (bv a b c d) = some (.bool false) := by
  simp [binA, g38, eqA, Try.underlying38, s38, eqFs, part3, Try.underlying3]
theorem slV_ne {b : Nat} {a : List Or} (h : a ≠ []) : slV b a = .slice (some ⟨b, 0, none⟩) a.length a.length := by
  cases a with
  | nil => exact absurd rfl h
  | cons q t => rfl
theorem oreN_ne {a : List Or} (h : a ≠ []) : oreN a = [celB a, indB a] := by
  cases a with
  | nil => exact absurd rfl h
  | cons q t => rfl
theorem rdN_cel {a : List Or} {k : Nat} {q : Or} (h : a[k]? = some q) : rdN (a.flatMap fun q => [iv q.1, iv q.2.1, iv 1, iv 1]) (k * 4) 4 = some [iv q.1, iv q.2.1, iv 1, iv 1] := by
  have key : ∀ (a : List Or) (k : Nat), a[k]? = some q → ∀ j, j < 4 → (a.flatMap fun q => [iv q.1, iv q.2.1, iv 1, iv 1])[k * 4 + j]? = [iv q.1, iv q.2.1, iv 1, iv 1][j]? := by
    intro a
    induction a with
    | nil => intro k h; simp at h
    | cons p a ih =>
      intro k h j hj
      cases k with
      | zero =>
        simp at h; subst h
        rw [List.flatMap_cons, List.getElem?_append_left (by simp; omega)]
        simp
      | succ k =>
        have h' : a[k]? = some q := by simpa using h
        rw [List.flatMap_cons, List.getElem?_append_right (by simp; omega)]
        rw [← ih k h' j hj]
        congr 1
        simp; omega
  have k0 := key a k h 0 (by decide)
  have k1 := key a k h 1 (by decide)
  have k2 := key a k h 2 (by decide)
  have k3 := key a k h 3 (by decide)
  simp at k0 k1 k2 k3
  simp [rdN, k0, k1, k2, k3, Nat.add_assoc]
section
variable (w hh o : Int) (b off n c : Nat) (nd : Nat → Int) {h : List Blk} {cs : List Value} {own : Bool}
theorem merge_ore {ρ : List Nat} {a : List Or} {e : Int} (hρ : ρ.length = 1) : mergeB h ρ ⟨.tuple #[slV 1 a, slV 2 a, iv e], oreN a, []⟩ = some ⟨.tuple #[slV h.length a, slV (h.length + 1) a, iv e], h ++ oreN a, ρ, []⟩ := by
  cases a with
  | nil => simp [mergeB, slV, oreN, renV_tuple, renL, renV_nilSl, renV_int, dep, optAll]
  | cons q t => simp [mergeB, slV, oreN, renV_tuple, renL, renV_sl, renV_int, dep, optAll, nblt, hρ, renB_cel, renB_ind]
theorem merge_ore0 {a : List Or} {e : Int} (ha : a = []) : mergeB h [] ⟨.tuple #[slV 1 a, slV 2 a, iv e], oreN a, []⟩ = some ⟨.tuple #[.slice none 0 0, .slice none 0 0, iv e], h, [], []⟩ := by
  subst ha
  simp [mergeB, slV, oreN, renV_tuple, renL, renV_nilSl, renV_int, dep, optAll]
theorem callO {f : FuncId} {rr : RR} (hb : h[b]? = some (.cells cs 1 true own)) (he : LL.run f [fv w hh o 0 off n c] [.cells cs 1 true own] = some rr) : callH LL f [fv w hh o b off n c] h = mergeB h [b] rr := by
  unfold callH
  rw [ptr_fv (vs := []) rfl, reach_one hb rfl (by decide)]
  have er := ren_fv (w := w) (hh := hh) (o := o) (b := b) (off := off) (n := n) (c := c) (vs := []) rfl
  simp only [er]
  simp only [optAll, hb, renB, he]
theorem k22 (hb : h[b]? = some (.cells cs 1 true own)) (hcs : ∀ i, i < n → cs[off + i]? = some (iv (nd i))) (hn : n ≤ 200) :
    callH LL 22 [fv w hh o b off n c] h = some ⟨.tuple #[slV h.length (oreR w hh o n nd).1, slV (h.length + 1) (oreR w hh o n nd).1, iv (oreR w hh o n nd).2], h ++ oreN (oreR w hh o n nd).1, [b], []⟩ := by
  rw [callO w hh o b off n c hb (c22 o off n c cs own nd w hh hcs hn)]
  exact merge_ore rfl
theorem k23 (hb : h[b]? = some (.cells cs 1 true own)) (hcs : ∀ i, i < n → cs[off + i]? = some (iv (nd i))) (hn : n ≤ 200) :
    callH LL 23 [fv w hh o b off n c] h = some ⟨.tuple #[slV h.length (oreR w hh o n nd).1, slV (h.length + 1) (oreR w hh o n nd).1, iv (oreR w hh o n nd).2], h ++ oreN (oreR w hh o n nd).1, [b], []⟩ := by
  rw [callO w hh o b off n c hb (c23 o off n c cs own nd w hh hcs hn)]
  exact merge_ore rfl
theorem oreR_nil : (oreR w hh o 0 nd).1 = [] := by
  have h0 := chk_nil w hh o nd
  simp only [oreR, h0, ne_eq, not_false_eq_true, if_true]
theorem k22n : callH LL 22 [fvn w hh o] h = some ⟨.tuple #[.slice none 0 0, .slice none 0 0, iv (oreR w hh o 0 nd).2], h, [], []⟩ := by
  have e := c22n o nd w hh
  have e2 := merge_ore0 (h := h) (e := (oreR w hh o 0 nd).2) (oreR_nil w hh o nd)
  simp [callH, ptrL_eq, ptrL, renL_eq, renL, ptrV_agg, ptrV_int, ptrV_nilSl, renV_agg, renV_int, renV_nilSl, renV_tuple, dep, optAll, reach, reachN, e, e2]
theorem k23n : callH LL 23 [fvn w hh o] h = some ⟨.tuple #[.slice none 0 0, .slice none 0 0, iv (oreR w hh o 0 nd).2], h, [], []⟩ := by
  have e := c23n o nd w hh
  have e2 := merge_ore0 (h := h) (e := (oreR w hh o 0 nd).2) (oreR_nil w hh o nd)
  simp [callH, ptrL_eq, ptrL, renL_eq, renL, ptrV_agg, ptrV_int, ptrV_nilSl, renV_agg, renV_int, renV_nilSl, renV_tuple, dep, optAll, reach, reachN, e, e2]
end
end Go.Proofs.Ytgpcjdhlijompaa.ore

namespace Go.Proofs.Ytgpcjdhlijompaa.ore
open Go.GE
set_option linter.unusedVariables false
set_option linter.unusedSimpArgs false
set_option maxRecDepth 100000
theorem cel4 {a : List Or} {k : Nat} {q : Or} (h : a[k]? = some q) : (a.flatMap fun q => [iv q.1, iv q.2.1, iv 1, iv 1])[k * 4]? = some (iv q.1) ∧ (a.flatMap fun q => [iv q.1, iv q.2.1, iv 1, iv 1])[k * 4 + 1]? = some (iv q.2.1) ∧
    (a.flatMap fun q => [iv q.1, iv q.2.1, iv 1, iv 1])[k * 4 + 1 + 1]? = some (iv 1) ∧ (a.flatMap fun q => [iv q.1, iv q.2.1, iv 1, iv 1])[k * 4 + 1 + 1 + 1]? = some (iv 1) := by
  have key : ∀ (a : List Or) (k : Nat), a[k]? = some q → ∀ j, j < 4 → (a.flatMap fun q => [iv q.1, iv q.2.1, iv 1, iv 1])[k * 4 + j]? = [iv q.1, iv q.2.1, iv 1, iv 1][j]? := by
    intro a
    induction a with
    | nil => intro k h; simp at h
    | cons p a ih =>
      intro k h j hj
      cases k with
      | zero =>
        simp at h; subst h
        rw [List.flatMap_cons, List.getElem?_append_left (by simp; omega)]
        simp
      | succ k =>
        have h' : a[k]? = some q := by simpa using h
        rw [List.flatMap_cons, List.getElem?_append_right (by simp; omega)]
        rw [← ih k h' j hj]
        congr 1
        simp; omega
  exact ⟨key a k h 0 (by decide), key a k h 1 (by decide), key a k h 2 (by decide), key a k h 3 (by decide)⟩
theorem has_big {m : Nat} : ∀ {τ : Tm}, (τ.all fun p => Nat.blt p.1 m) = true → ∀ t, m ≤ t → has τ t = false := by
  intro τ
  induction τ with
  | nil => intro _ _ _; rfl
  | cons p τ ih =>
    intro h t ht
    obtain ⟨a, v⟩ := p
    simp only [List.all_cons, Bool.and_eq_true, GE.blt_iff] at h
    have : Nat.beq a t = false := GE.beq_false.2 (by have := h.1; omega)
    simp only [has, this, cond_false]
    exact ih h.2 t ht
theorem drop_cons {m : Nat} {p : Nat × Value} {σ : Tm} (h : m ≤ σ.length) : dropTo m (p :: σ) = dropTo m σ := by
  unfold dropTo
  rw [List.length_cons, show σ.length + 1 - m = (σ.length - m) + 1 by omega, List.drop_succ_cons]
theorem drop_self {σ : Tm} {m : Nat} (h : m = σ.length) : dropTo m σ = σ := by
  subst h; unfold dropTo; simp
section
variable (w hh o : Int) (off n c : Nat) (X Y W H : Int) (cs : List Value) (own : Bool)
def H4 (a : List Or) : List Blk := [.cells cs 1 true own, fb w hh o 0 off n c, bb X Y W H, fb w hh o 0 off n c, celB a, indB a, celB a, indB a]
theorem l4 (a : List Or) (hlen : a.length ≤ 100) (τ : Tm) (h10 : lk τ 10 = some (.slice (some ⟨4, 0, none⟩) a.length a.length)) (h11 : lk τ 11 = some (.slice (some ⟨5, 0, none⟩) a.length a.length))
    (h13 : lk τ 13 = some (.slice (some ⟨6, 0, none⟩) a.length a.length)) (h14 : lk τ 14 = some (.slice (some ⟨7, 0, none⟩) a.length a.length)) (hb : ∀ t, 82 ≤ t → has τ t = false) : ∀ k i : Nat, i + k = a.length →
    codeB Try.prog LL ⟨4, 109, 1, none⟩ n4_32 ⟨(16, iv i) :: τ, H4 w hh o off n c X Y W H cs own a, []⟩ =
      some (.exit 0, ⟨(85, .bool false) :: (84, iv a.length) :: (83, .slice (some ⟨4, 0, none⟩) a.length a.length) :: (82, iv a.length) :: (16, iv a.length) :: τ, H4 w hh o off n c X Y W H cs own a, []⟩) := by
  intro k
  induction k with
  | zero =>
    intro i hi
    obtain rfl : i = a.length := by omega
    rw [n4_32s]
    simp only [H4]
    simp (disch := first | omega | decide | assumption | simp [scal]) [runOps_nil, runOps_cons, runOpsF_nil, runOpsF_cons, fstS_some, fstF_some, opStep_eq, want_none, oStep_true, oStep_false, fin_pure, fin_read, fin_alloc, fin_write, storeB, wrN, cellV, addWr, o_move, o_assign, o_pick, o_alloc, o_box, o_load, o_store, o_nilCheck, o_bin, o_un, o_extract, o_callV, o_callB, o_callI, callV_f, callV_y, callV_fc, o_makeFunc, partsA, Instr.fill, builtin_len, builtin_max2, bin_add, bin_sub, bin_mul, bin_quo, bin_rem, bin_lss, bin_leq, bin_gtr, bin_geq, bin_eql, bin_neq, un_neg, un_not, opd, opds, optAll, lk, putO, put, has, rep, nbeq, nblt, constOk, isC, ops, sub, cl, cr, co, bodyOf, thenS_normal, thenS_ret, thenS_exit, thenS_goto, afterN_normal, afterN_ret, afterN_exit, afterN_goto, condS_true, condS_false, blockS_normal, blockS_ret, blockS_exit, blockS_goto, loopS_exit, loopS_ret, plainS_some, drawS_some, fpsOk, disj, unord, mem, range', dropTo, enumT, undef, wrap_i64_id, Value.cells, mkCells, ptrTo, scal, cellsAt, rdN, endS_ret, resultsA, Option.bind_some, tupV, finish, reach, reachN, dep, ptrL_eq, ptrL, renL_eq, renL, ptrV_bool, ptrV_int, ptrV_string, ptrV_nilFunc, ptrV_nilIface, ptrV_nilPtr, ptrV_ptr, ptrV_nilSl, ptrV_sl, ptrV_iface, ptrV_agg, ptrV_tuple, ptrV_func, renV_bool, renV_int, renV_string, renV_nilFunc, renV_nilIface, renV_nilPtr, renV_ptr, renV_nilSl, renV_sl, renV_iface, renV_agg, renV_tuple, renV_func, o_fieldAddr fa_24_2 (by decide), loadA_eq ia_3, o_fieldAddr fa_24_3 (by decide), loadA_eq ia_22, o_fieldAddr fa_24_0 (by decide), o_indexAddrS es_22, o_fieldAddr fa_24_1 (by decide), lenA_sl lk_22, loadA_eq ia_24, loadA_eq ia_31, o_fieldAddr fa_31_2 (by decide), o_fieldAddr fa_31_3 (by decide), o_fieldAddr fa_31_0 (by decide), o_fieldAddr fa_31_1 (by decide), za_31, sz_31, o_fieldAddr fa_35_0 (by decide), o_fieldAddr fa_35_1 (by decide), o_fieldAddr fa_35_2 (by decide), o_fieldAddr fa_35_3 (by decide), za_3, sz_3, loadA_eq ia_35, za_103, o_build za_103 pl_103, o_indexAddrS es_104, ze_104, o_buildSlice es_104 ze_104 (by decide) ba_104_4, lenA_sl lk_104, loadA_eq ia_103, sz_103, o_fieldAddr fa_103_2 (by decide), o_fieldAddr fa_103_0 (by decide), o_fieldAddr fa_103_1 (by decide), o_fieldAddr fa_38_0 (by decide), o_fieldAddr fa_38_1 (by decide), o_fieldAddr fa_38_2 (by decide), o_fieldAddr fa_38_3 (by decide), loadA_eq ia_38, za_35, o_build za_35 pl_35, sz_35, o_indexAddrS es_39, ze_39, o_buildSlice es_39 ze_39 (by decide) ba_39_1, ap_39, builtin_append ni_39, ze_22, o_buildSlice es_22 ze_22 (by decide) ba_22_1, ap_22, builtin_append ni_22, za_38, o_build za_38 pl_38, sz_38, o_indexAddrS es_42, ze_42, o_buildSlice es_42 ze_42 (by decide) ba_42_1, ap_42, builtin_append ni_42, lenA_sl lk_39, lenA_sl lk_42, n4_1s, n4_4s, n4_7s, n4_8s, n4_6s, n4_9s, n4_5s, n4_3s, n4_11s, n4_13s, n4_15s, n4_17s, n4_19s, n4_22s, n4_25s, n4_26s, n4_24s, n4_27s, n4_23s, n4_21s, n4_30s, n4_35s, n4_37s, n4_38s, n4_36s, n4_34s, n4_42s, n4_45s, n4_46s, n4_44s, n4_47s, n4_43s, n4_41s, n4_40s, n4_48s, n4_39s, n4_33s, n4_31s, n4_29s, n4_50s, n4_51s, n4_49s, n4_28s, n4_20s, n4_18s, n4_16s, n4_14s, n4_12s, n4_10s, n4_2s, n4_0s, want_some q4_22g3, want_some q4_22g8, want_some q4_22g13, want_some q4_22g20, want_some q4_22g27, want_some q4_42g9, Try.f4, hb, h10, lenA_sl lk_39]
  | succ k ih =>
    intro i hi
    have this := L_code (ih (i + 1) (by omega))
    have e1 : i < a.length := by omega
    have e2 : a[i]? = some a[i] := List.getElem?_eq_getElem e1
    obtain ⟨e3, e4, e5, e6⟩ := cel4 e2
    rw [n4_32s]
    simp only [H4, cast1, celB, indB] at this ⊢
    generalize a[i] = q at *
    simp (disch := first | omega | decide | assumption | simp [scal]) [runOps_nil, runOps_cons, runOpsF_nil, runOpsF_cons, fstS_some, fstF_some, opStep_eq, want_none, oStep_true, oStep_false, fin_pure, fin_read, fin_alloc, fin_write, storeB, wrN, cellV, addWr, o_move, o_assign, o_pick, o_alloc, o_box, o_load, o_store, o_nilCheck, o_bin, o_un, o_extract, o_callV, o_callB, o_callI, callV_f, callV_y, callV_fc, o_makeFunc, partsA, Instr.fill, builtin_len, builtin_max2, bin_add, bin_sub, bin_mul, bin_quo, bin_rem, bin_lss, bin_leq, bin_gtr, bin_geq, bin_eql, bin_neq, un_neg, un_not, opd, opds, optAll, lk, putO, put, has, rep, nbeq, nblt, constOk, isC, ops, sub, cl, cr, co, bodyOf, thenS_normal, thenS_ret, thenS_exit, thenS_goto, afterN_normal, afterN_ret, afterN_exit, afterN_goto, condS_true, condS_false, blockS_normal, blockS_ret, blockS_exit, blockS_goto, loopS_exit, loopS_ret, plainS_some, drawS_some, fpsOk, disj, unord, mem, range', dropTo, enumT, undef, wrap_i64_id, Value.cells, mkCells, ptrTo, scal, cellsAt, rdN, endS_ret, resultsA, Option.bind_some, tupV, finish, reach, reachN, dep, ptrL_eq, ptrL, renL_eq, renL, ptrV_bool, ptrV_int, ptrV_string, ptrV_nilFunc, ptrV_nilIface, ptrV_nilPtr, ptrV_ptr, ptrV_nilSl, ptrV_sl, ptrV_iface, ptrV_agg, ptrV_tuple, ptrV_func, renV_bool, renV_int, renV_string, renV_nilFunc, renV_nilIface, renV_nilPtr, renV_ptr, renV_nilSl, renV_sl, renV_iface, renV_agg, renV_tuple, renV_func, o_fieldAddr fa_24_2 (by decide), loadA_eq ia_3, o_fieldAddr fa_24_3 (by decide), loadA_eq ia_22, o_fieldAddr fa_24_0 (by decide), o_indexAddrS es_22, o_fieldAddr fa_24_1 (by decide), lenA_sl lk_22, loadA_eq ia_24, loadA_eq ia_31, o_fieldAddr fa_31_2 (by decide), o_fieldAddr fa_31_3 (by decide), o_fieldAddr fa_31_0 (by decide), o_fieldAddr fa_31_1 (by decide), za_31, sz_31, o_fieldAddr fa_35_0 (by decide), o_fieldAddr fa_35_1 (by decide), o_fieldAddr fa_35_2 (by decide), o_fieldAddr fa_35_3 (by decide), za_3, sz_3, loadA_eq ia_35, za_103, o_build za_103 pl_103, o_indexAddrS es_104, ze_104, o_buildSlice es_104 ze_104 (by decide) ba_104_4, lenA_sl lk_104, loadA_eq ia_103, sz_103, o_fieldAddr fa_103_2 (by decide), o_fieldAddr fa_103_0 (by decide), o_fieldAddr fa_103_1 (by decide), o_fieldAddr fa_38_0 (by decide), o_fieldAddr fa_38_1 (by decide), o_fieldAddr fa_38_2 (by decide), o_fieldAddr fa_38_3 (by decide), loadA_eq ia_38, za_35, o_build za_35 pl_35, sz_35, o_indexAddrS es_39, ze_39, o_buildSlice es_39 ze_39 (by decide) ba_39_1, ap_39, builtin_append ni_39, ze_22, o_buildSlice es_22 ze_22 (by decide) ba_22_1, ap_22, builtin_append ni_22, za_38, o_build za_38 pl_38, sz_38, o_indexAddrS es_42, ze_42, o_buildSlice es_42 ze_42 (by decide) ba_42_1, ap_42, builtin_append ni_42, lenA_sl lk_39, lenA_sl lk_42, n4_1s, n4_4s, n4_7s, n4_8s, n4_6s, n4_9s, n4_5s, n4_3s, n4_11s, n4_13s, n4_15s, n4_17s, n4_19s, n4_22s, n4_25s, n4_26s, n4_24s, n4_27s, n4_23s, n4_21s, n4_30s, n4_35s, n4_37s, n4_38s, n4_36s, n4_34s, n4_42s, n4_45s, n4_46s, n4_44s, n4_47s, n4_43s, n4_41s, n4_40s, n4_48s, n4_39s, n4_33s, n4_31s, n4_29s, n4_50s, n4_51s, n4_49s, n4_28s, n4_20s, n4_18s, n4_16s, n4_14s, n4_12s, n4_10s, n4_2s, n4_0s, want_some q4_22g3, want_some q4_22g8, want_some q4_22g13, want_some q4_22g20, want_some q4_22g27, want_some q4_42g9, Try.f4, -dropTo, drop_cons, drop_self, hb, h10, h11, h13, h14, lenA_sl lk_39, e1, e2, e3, e4, e5, e6, eq38, loopS_same, this]
end
theorem c4 (w hh o : Int) (off n c : Nat) (X Y W H : Int) (cs : List Value) (own : Bool) (nd : Nat → Int) (hcs : n ≤ 200 → ∀ i, i < n → cs[off + i]? = some (iv (nd i))) :
    LL.run 4 [fv w hh o 0 off n c, bv X Y W H] [.cells cs 1 true own] = some ⟨.bool true, [], []⟩ := by
  refine go (by decide) ?_
  rw [run4 _ _ _ (by simp)]
  by_cases hn : n ≤ 200
  · have hn' : ¬ (200 : Int) < n := by omega
    have hcs' := hcs hn
    have a1 := fun rest : List Blk => k19 w hh o 0 off n c (h := .cells cs 1 true own :: rest) rfl
    have a2 := fun rest : List Blk => k20 w hh o 0 off n c X Y W H nd (h := .cells cs 1 true own :: rest) rfl hcs' hn
    have a3 := fun rest : List Blk => k21 w hh o 0 off n c X Y W H nd (h := .cells cs 1 true own :: rest) rfl hcs' hn
    have a4 := fun rest : List Blk => k22 w hh o 0 off n c nd (h := .cells cs 1 true own :: rest) rfl hcs' hn
    have a5 := fun rest : List Blk => k23 w hh o 0 off n c nd (h := .cells cs 1 true own :: rest) rfl hcs' hn
    have hl := oreR_len w hh o n nd
    generalize oreR w hh o n nd = R at *
    generalize ires w hh o n nd X Y W H = I at *
    obtain ⟨a, e⟩ := R
    by_cases ha : a = []
    · subst ha
      simp only [slV, oreN, List.append_nil] at a4 a5
      simp (disch := first | omega | decide | assumption | simp [scal]) [runOps_nil, runOps_cons, runOpsF_nil, runOpsF_cons, fstS_some, fstF_some, opStep_eq, want_none, oStep_true, oStep_false, fin_pure, fin_read, fin_alloc, fin_write, storeB, wrN, cellV, addWr, o_move, o_assign, o_pick, o_alloc, o_box, o_load, o_store, o_nilCheck, o_bin, o_un, o_extract, o_callV, o_callB, o_callI, callV_f, callV_y, callV_fc, o_makeFunc, partsA, Instr.fill, builtin_len, builtin_max2, bin_add, bin_sub, bin_mul, bin_quo, bin_rem, bin_lss, bin_leq, bin_gtr, bin_geq, bin_eql, bin_neq, un_neg, un_not, opd, opds, optAll, lk, putO, put, has, rep, nbeq, nblt, constOk, isC, ops, sub, cl, cr, co, bodyOf, thenS_normal, thenS_ret, thenS_exit, thenS_goto, afterN_normal, afterN_ret, afterN_exit, afterN_goto, condS_true, condS_false, blockS_normal, blockS_ret, blockS_exit, blockS_goto, loopS_exit, loopS_ret, plainS_some, drawS_some, fpsOk, disj, unord, mem, range', dropTo, enumT, undef, wrap_i64_id, Value.cells, mkCells, ptrTo, scal, cellsAt, rdN, endS_ret, resultsA, Option.bind_some, tupV, finish, reach, reachN, dep, ptrL_eq, ptrL, renL_eq, renL, ptrV_bool, ptrV_int, ptrV_string, ptrV_nilFunc, ptrV_nilIface, ptrV_nilPtr, ptrV_ptr, ptrV_nilSl, ptrV_sl, ptrV_iface, ptrV_agg, ptrV_tuple, ptrV_func, renV_bool, renV_int, renV_string, renV_nilFunc, renV_nilIface, renV_nilPtr, renV_ptr, renV_nilSl, renV_sl, renV_iface, renV_agg, renV_tuple, renV_func, o_fieldAddr fa_24_2 (by decide), loadA_eq ia_3, o_fieldAddr fa_24_3 (by decide), loadA_eq ia_22, o_fieldAddr fa_24_0 (by decide), o_indexAddrS es_22, o_fieldAddr fa_24_1 (by decide), lenA_sl lk_22, loadA_eq ia_24, loadA_eq ia_31, o_fieldAddr fa_31_2 (by decide), o_fieldAddr fa_31_3 (by decide), o_fieldAddr fa_31_0 (by decide), o_fieldAddr fa_31_1 (by decide), za_31, sz_31, o_fieldAddr fa_35_0 (by decide), o_fieldAddr fa_35_1 (by decide), o_fieldAddr fa_35_2 (by decide), o_fieldAddr fa_35_3 (by decide), za_3, sz_3, loadA_eq ia_35, za_103, o_build za_103 pl_103, o_indexAddrS es_104, ze_104, o_buildSlice es_104 ze_104 (by decide) ba_104_4, lenA_sl lk_104, loadA_eq ia_103, sz_103, o_fieldAddr fa_103_2 (by decide), o_fieldAddr fa_103_0 (by decide), o_fieldAddr fa_103_1 (by decide), o_fieldAddr fa_38_0 (by decide), o_fieldAddr fa_38_1 (by decide), o_fieldAddr fa_38_2 (by decide), o_fieldAddr fa_38_3 (by decide), loadA_eq ia_38, za_35, o_build za_35 pl_35, sz_35, o_indexAddrS es_39, ze_39, o_buildSlice es_39 ze_39 (by decide) ba_39_1, ap_39, builtin_append ni_39, ze_22, o_buildSlice es_22 ze_22 (by decide) ba_22_1, ap_22, builtin_append ni_22, za_38, o_build za_38 pl_38, sz_38, o_indexAddrS es_42, ze_42, o_buildSlice es_42 ze_42 (by decide) ba_42_1, ap_42, builtin_append ni_42, lenA_sl lk_39, lenA_sl lk_42, n4_1s, n4_4s, n4_7s, n4_8s, n4_6s, n4_9s, n4_5s, n4_3s, n4_11s, n4_13s, n4_15s, n4_17s, n4_19s, n4_22s, n4_25s, n4_26s, n4_24s, n4_27s, n4_23s, n4_21s, n4_30s, n4_35s, n4_37s, n4_38s, n4_36s, n4_34s, n4_42s, n4_45s, n4_46s, n4_44s, n4_47s, n4_43s, n4_41s, n4_40s, n4_48s, n4_39s, n4_33s, n4_31s, n4_29s, n4_50s, n4_51s, n4_49s, n4_28s, n4_20s, n4_18s, n4_16s, n4_14s, n4_12s, n4_10s, n4_2s, n4_0s, want_some q4_22g3, want_some q4_22g8, want_some q4_22g13, want_some q4_22g20, want_some q4_22g27, want_some q4_42g9, Try.f4, hn', a1, a2, a3, a4, a5, k14, lenA_sl lk_39, lenA_sl lk_42]
      rw [n4_32s]
      simp (disch := first | omega | decide | assumption | simp [scal]) [runOps_nil, runOps_cons, runOpsF_nil, runOpsF_cons, fstS_some, fstF_some, opStep_eq, want_none, oStep_true, oStep_false, fin_pure, fin_read, fin_alloc, fin_write, storeB, wrN, cellV, addWr, o_move, o_assign, o_pick, o_alloc, o_box, o_load, o_store, o_nilCheck, o_bin, o_un, o_extract, o_callV, o_callB, o_callI, callV_f, callV_y, callV_fc, o_makeFunc, partsA, Instr.fill, builtin_len, builtin_max2, bin_add, bin_sub, bin_mul, bin_quo, bin_rem, bin_lss, bin_leq, bin_gtr, bin_geq, bin_eql, bin_neq, un_neg, un_not, opd, opds, optAll, lk, putO, put, has, rep, nbeq, nblt, constOk, isC, ops, sub, cl, cr, co, bodyOf, thenS_normal, thenS_ret, thenS_exit, thenS_goto, afterN_normal, afterN_ret, afterN_exit, afterN_goto, condS_true, condS_false, blockS_normal, blockS_ret, blockS_exit, blockS_goto, loopS_exit, loopS_ret, plainS_some, drawS_some, fpsOk, disj, unord, mem, range', dropTo, enumT, undef, wrap_i64_id, Value.cells, mkCells, ptrTo, scal, cellsAt, rdN, endS_ret, resultsA, Option.bind_some, tupV, finish, reach, reachN, dep, ptrL_eq, ptrL, renL_eq, renL, ptrV_bool, ptrV_int, ptrV_string, ptrV_nilFunc, ptrV_nilIface, ptrV_nilPtr, ptrV_ptr, ptrV_nilSl, ptrV_sl, ptrV_iface, ptrV_agg, ptrV_tuple, ptrV_func, renV_bool, renV_int, renV_string, renV_nilFunc, renV_nilIface, renV_nilPtr, renV_ptr, renV_nilSl, renV_sl, renV_iface, renV_agg, renV_tuple, renV_func, o_fieldAddr fa_24_2 (by decide), loadA_eq ia_3, o_fieldAddr fa_24_3 (by decide), loadA_eq ia_22, o_fieldAddr fa_24_0 (by decide), o_indexAddrS es_22, o_fieldAddr fa_24_1 (by decide), lenA_sl lk_22, loadA_eq ia_24, loadA_eq ia_31, o_fieldAddr fa_31_2 (by decide), o_fieldAddr fa_31_3 (by decide), o_fieldAddr fa_31_0 (by decide), o_fieldAddr fa_31_1 (by decide), za_31, sz_31, o_fieldAddr fa_35_0 (by decide), o_fieldAddr fa_35_1 (by decide), o_fieldAddr fa_35_2 (by decide), o_fieldAddr fa_35_3 (by decide), za_3, sz_3, loadA_eq ia_35, za_103, o_build za_103 pl_103, o_indexAddrS es_104, ze_104, o_buildSlice es_104 ze_104 (by decide) ba_104_4, lenA_sl lk_104, loadA_eq ia_103, sz_103, o_fieldAddr fa_103_2 (by decide), o_fieldAddr fa_103_0 (by decide), o_fieldAddr fa_103_1 (by decide), o_fieldAddr fa_38_0 (by decide), o_fieldAddr fa_38_1 (by decide), o_fieldAddr fa_38_2 (by decide), o_fieldAddr fa_38_3 (by decide), loadA_eq ia_38, za_35, o_build za_35 pl_35, sz_35, o_indexAddrS es_39, ze_39, o_buildSlice es_39 ze_39 (by decide) ba_39_1, ap_39, builtin_append ni_39, ze_22, o_buildSlice es_22 ze_22 (by decide) ba_22_1, ap_22, builtin_append ni_22, za_38, o_build za_38 pl_38, sz_38, o_indexAddrS es_42, ze_42, o_buildSlice es_42 ze_42 (by decide) ba_42_1, ap_42, builtin_append ni_42, lenA_sl lk_39, lenA_sl lk_42, n4_1s, n4_4s, n4_7s, n4_8s, n4_6s, n4_9s, n4_5s, n4_3s, n4_11s, n4_13s, n4_15s, n4_17s, n4_19s, n4_22s, n4_25s, n4_26s, n4_24s, n4_27s, n4_23s, n4_21s, n4_30s, n4_35s, n4_37s, n4_38s, n4_36s, n4_34s, n4_42s, n4_45s, n4_46s, n4_44s, n4_47s, n4_43s, n4_41s, n4_40s, n4_48s, n4_39s, n4_33s, n4_31s, n4_29s, n4_50s, n4_51s, n4_49s, n4_28s, n4_20s, n4_18s, n4_16s, n4_14s, n4_12s, n4_10s, n4_2s, n4_0s, want_some q4_22g3, want_some q4_22g8, want_some q4_22g13, want_some q4_22g20, want_some q4_22g27, want_some q4_42g9, Try.f4, k14, lenA_sl lk_39]
    · simp only [slV_ne ha, oreN_ne ha] at a4 a5
      simp (disch := first | omega | decide | assumption | simp [scal]) [runOps_nil, runOps_cons, runOpsF_nil, runOpsF_cons, fstS_some, fstF_some, opStep_eq, want_none, oStep_true, oStep_false, fin_pure, fin_read, fin_alloc, fin_write, storeB, wrN, cellV, addWr, o_move, o_assign, o_pick, o_alloc, o_box, o_load, o_store, o_nilCheck, o_bin, o_un, o_extract, o_callV, o_callB, o_callI, callV_f, callV_y, callV_fc, o_makeFunc, partsA, Instr.fill, builtin_len, builtin_max2, bin_add, bin_sub, bin_mul, bin_quo, bin_rem, bin_lss, bin_leq, bin_gtr, bin_geq, bin_eql, bin_neq, un_neg, un_not, opd, opds, optAll, lk, putO, put, has, rep, nbeq, nblt, constOk, isC, ops, sub, cl, cr, co, bodyOf, thenS_normal, thenS_ret, thenS_exit, thenS_goto, afterN_normal, afterN_ret, afterN_exit, afterN_goto, condS_true, condS_false, blockS_normal, blockS_ret, blockS_exit, blockS_goto, loopS_exit, loopS_ret, plainS_some, drawS_some, fpsOk, disj, unord, mem, range', dropTo, enumT, undef, wrap_i64_id, Value.cells, mkCells, ptrTo, scal, cellsAt, rdN, endS_ret, resultsA, Option.bind_some, tupV, finish, reach, reachN, dep, ptrL_eq, ptrL, renL_eq, renL, ptrV_bool, ptrV_int, ptrV_string, ptrV_nilFunc, ptrV_nilIface, ptrV_nilPtr, ptrV_ptr, ptrV_nilSl, ptrV_sl, ptrV_iface, ptrV_agg, ptrV_tuple, ptrV_func, renV_bool, renV_int, renV_string, renV_nilFunc, renV_nilIface, renV_nilPtr, renV_ptr, renV_nilSl, renV_sl, renV_iface, renV_agg, renV_tuple, renV_func, o_fieldAddr fa_24_2 (by decide), loadA_eq ia_3, o_fieldAddr fa_24_3 (by decide), loadA_eq ia_22, o_fieldAddr fa_24_0 (by decide), o_indexAddrS es_22, o_fieldAddr fa_24_1 (by decide), lenA_sl lk_22, loadA_eq ia_24, loadA_eq ia_31, o_fieldAddr fa_31_2 (by decide), o_fieldAddr fa_31_3 (by decide), o_fieldAddr fa_31_0 (by decide), o_fieldAddr fa_31_1 (by decide), za_31, sz_31, o_fieldAddr fa_35_0 (by decide), o_fieldAddr fa_35_1 (by decide), o_fieldAddr fa_35_2 (by decide), o_fieldAddr fa_35_3 (by decide), za_3, sz_3, loadA_eq ia_35, za_103, o_build za_103 pl_103, o_indexAddrS es_104, ze_104, o_buildSlice es_104 ze_104 (by decide) ba_104_4, lenA_sl lk_104, loadA_eq ia_103, sz_103, o_fieldAddr fa_103_2 (by decide), o_fieldAddr fa_103_0 (by decide), o_fieldAddr fa_103_1 (by decide), o_fieldAddr fa_38_0 (by decide), o_fieldAddr fa_38_1 (by decide), o_fieldAddr fa_38_2 (by decide), o_fieldAddr fa_38_3 (by decide), loadA_eq ia_38, za_35, o_build za_35 pl_35, sz_35, o_indexAddrS es_39, ze_39, o_buildSlice es_39 ze_39 (by decide) ba_39_1, ap_39, builtin_append ni_39, ze_22, o_buildSlice es_22 ze_22 (by decide) ba_22_1, ap_22, builtin_append ni_22, za_38, o_build za_38 pl_38, sz_38, o_indexAddrS es_42, ze_42, o_buildSlice es_42 ze_42 (by decide) ba_42_1, ap_42, builtin_append ni_42, lenA_sl lk_39, lenA_sl lk_42, n4_1s, n4_4s, n4_7s, n4_8s, n4_6s, n4_9s, n4_5s, n4_3s, n4_11s, n4_13s, n4_15s, n4_17s, n4_19s, n4_22s, n4_25s, n4_26s, n4_24s, n4_27s, n4_23s, n4_21s, n4_30s, n4_35s, n4_37s, n4_38s, n4_36s, n4_34s, n4_42s, n4_45s, n4_46s, n4_44s, n4_47s, n4_43s, n4_41s, n4_40s, n4_48s, n4_39s, n4_33s, n4_31s, n4_29s, n4_50s, n4_51s, n4_49s, n4_28s, n4_20s, n4_18s, n4_16s, n4_14s, n4_12s, n4_10s, n4_2s, n4_0s, want_some q4_22g3, want_some q4_22g8, want_some q4_22g13, want_some q4_22g20, want_some q4_22g27, want_some q4_42g9, Try.f4, hn', a1, a2, a3, a4, a5, k14, lenA_sl lk_39, lenA_sl lk_42]
      have hlp := fun τ h10 h11 h13 h14 hb => l4 w hh o off n c X Y W H cs own a (by omega) τ h10 h11 h13 h14 hb a.length 0 (by omega)
      simp only [H4, Int.natCast_zero] at hlp
      rw [hlp _ rfl rfl rfl rfl (has_big rfl)]
      simp (disch := first | omega | decide | assumption | simp [scal]) [runOps_nil, runOps_cons, runOpsF_nil, runOpsF_cons, fstS_some, fstF_some, opStep_eq, want_none, oStep_true, oStep_false, fin_pure, fin_read, fin_alloc, fin_write, storeB, wrN, cellV, addWr, o_move, o_assign, o_pick, o_alloc, o_box, o_load, o_store, o_nilCheck, o_bin, o_un, o_extract, o_callV, o_callB, o_callI, callV_f, callV_y, callV_fc, o_makeFunc, partsA, Instr.fill, builtin_len, builtin_max2, bin_add, bin_sub, bin_mul, bin_quo, bin_rem, bin_lss, bin_leq, bin_gtr, bin_geq, bin_eql, bin_neq, un_neg, un_not, opd, opds, optAll, lk, putO, put, has, rep, nbeq, nblt, constOk, isC, ops, sub, cl, cr, co, bodyOf, thenS_normal, thenS_ret, thenS_exit, thenS_goto, afterN_normal, afterN_ret, afterN_exit, afterN_goto, condS_true, condS_false, blockS_normal, blockS_ret, blockS_exit, blockS_goto, loopS_exit, loopS_ret, plainS_some, drawS_some, fpsOk, disj, unord, mem, range', dropTo, enumT, undef, wrap_i64_id, Value.cells, mkCells, ptrTo, scal, cellsAt, rdN, endS_ret, resultsA, Option.bind_some, tupV, finish, reach, reachN, dep, ptrL_eq, ptrL, renL_eq, renL, ptrV_bool, ptrV_int, ptrV_string, ptrV_nilFunc, ptrV_nilIface, ptrV_nilPtr, ptrV_ptr, ptrV_nilSl, ptrV_sl, ptrV_iface, ptrV_agg, ptrV_tuple, ptrV_func, renV_bool, renV_int, renV_string, renV_nilFunc, renV_nilIface, renV_nilPtr, renV_ptr, renV_nilSl, renV_sl, renV_iface, renV_agg, renV_tuple, renV_func, o_fieldAddr fa_24_2 (by decide), loadA_eq ia_3, o_fieldAddr fa_24_3 (by decide), loadA_eq ia_22, o_fieldAddr fa_24_0 (by decide), o_indexAddrS es_22, o_fieldAddr fa_24_1 (by decide), lenA_sl lk_22, loadA_eq ia_24, loadA_eq ia_31, o_fieldAddr fa_31_2 (by decide), o_fieldAddr fa_31_3 (by decide), o_fieldAddr fa_31_0 (by decide), o_fieldAddr fa_31_1 (by decide), za_31, sz_31, o_fieldAddr fa_35_0 (by decide), o_fieldAddr fa_35_1 (by decide), o_fieldAddr fa_35_2 (by decide), o_fieldAddr fa_35_3 (by decide), za_3, sz_3, loadA_eq ia_35, za_103, o_build za_103 pl_103, o_indexAddrS es_104, ze_104, o_buildSlice es_104 ze_104 (by decide) ba_104_4, lenA_sl lk_104, loadA_eq ia_103, sz_103, o_fieldAddr fa_103_2 (by decide), o_fieldAddr fa_103_0 (by decide), o_fieldAddr fa_103_1 (by decide), o_fieldAddr fa_38_0 (by decide), o_fieldAddr fa_38_1 (by decide), o_fieldAddr fa_38_2 (by decide), o_fieldAddr fa_38_3 (by decide), loadA_eq ia_38, za_35, o_build za_35 pl_35, sz_35, o_indexAddrS es_39, ze_39, o_buildSlice es_39 ze_39 (by decide) ba_39_1, ap_39, builtin_append ni_39, ze_22, o_buildSlice es_22 ze_22 (by decide) ba_22_1, ap_22, builtin_append ni_22, za_38, o_build za_38 pl_38, sz_38, o_indexAddrS es_42, ze_42, o_buildSlice es_42 ze_42 (by decide) ba_42_1, ap_42, builtin_append ni_42, lenA_sl lk_39, lenA_sl lk_42, n4_1s, n4_4s, n4_7s, n4_8s, n4_6s, n4_9s, n4_5s, n4_3s, n4_11s, n4_13s, n4_15s, n4_17s, n4_19s, n4_22s, n4_25s, n4_26s, n4_24s, n4_27s, n4_23s, n4_21s, n4_30s, n4_35s, n4_37s, n4_38s, n4_36s, n4_34s, n4_42s, n4_45s, n4_46s, n4_44s, n4_47s, n4_43s, n4_41s, n4_40s, n4_48s, n4_39s, n4_33s, n4_31s, n4_29s, n4_50s, n4_51s, n4_49s, n4_28s, n4_20s, n4_18s, n4_16s, n4_14s, n4_12s, n4_10s, n4_2s, n4_0s, want_some q4_22g3, want_some q4_22g8, want_some q4_22g13, want_some q4_22g20, want_some q4_22g27, want_some q4_42g9, Try.f4, k14]
  · have hn' : (200 : Int) < n := by omega
    simp (disch := first | omega | decide | assumption | simp [scal]) [runOps_nil, runOps_cons, runOpsF_nil, runOpsF_cons, fstS_some, fstF_some, opStep_eq, want_none, oStep_true, oStep_false, fin_pure, fin_read, fin_alloc, fin_write, storeB, wrN, cellV, addWr, o_move, o_assign, o_pick, o_alloc, o_box, o_load, o_store, o_nilCheck, o_bin, o_un, o_extract, o_callV, o_callB, o_callI, callV_f, callV_y, callV_fc, o_makeFunc, partsA, Instr.fill, builtin_len, builtin_max2, bin_add, bin_sub, bin_mul, bin_quo, bin_rem, bin_lss, bin_leq, bin_gtr, bin_geq, bin_eql, bin_neq, un_neg, un_not, opd, opds, optAll, lk, putO, put, has, rep, nbeq, nblt, constOk, isC, ops, sub, cl, cr, co, bodyOf, thenS_normal, thenS_ret, thenS_exit, thenS_goto, afterN_normal, afterN_ret, afterN_exit, afterN_goto, condS_true, condS_false, blockS_normal, blockS_ret, blockS_exit, blockS_goto, loopS_exit, loopS_ret, plainS_some, drawS_some, fpsOk, disj, unord, mem, range', dropTo, enumT, undef, wrap_i64_id, Value.cells, mkCells, ptrTo, scal, cellsAt, rdN, endS_ret, resultsA, Option.bind_some, tupV, finish, reach, reachN, dep, ptrL_eq, ptrL, renL_eq, renL, ptrV_bool, ptrV_int, ptrV_string, ptrV_nilFunc, ptrV_nilIface, ptrV_nilPtr, ptrV_ptr, ptrV_nilSl, ptrV_sl, ptrV_iface, ptrV_agg, ptrV_tuple, ptrV_func, renV_bool, renV_int, renV_string, renV_nilFunc, renV_nilIface, renV_nilPtr, renV_ptr, renV_nilSl, renV_sl, renV_iface, renV_agg, renV_tuple, renV_func, o_fieldAddr fa_24_2 (by decide), loadA_eq ia_3, o_fieldAddr fa_24_3 (by decide), loadA_eq ia_22, o_fieldAddr fa_24_0 (by decide), o_indexAddrS es_22, o_fieldAddr fa_24_1 (by decide), lenA_sl lk_22, loadA_eq ia_24, loadA_eq ia_31, o_fieldAddr fa_31_2 (by decide), o_fieldAddr fa_31_3 (by decide), o_fieldAddr fa_31_0 (by decide), o_fieldAddr fa_31_1 (by decide), za_31, sz_31, o_fieldAddr fa_35_0 (by decide), o_fieldAddr fa_35_1 (by decide), o_fieldAddr fa_35_2 (by decide), o_fieldAddr fa_35_3 (by decide), za_3, sz_3, loadA_eq ia_35, za_103, o_build za_103 pl_103, o_indexAddrS es_104, ze_104, o_buildSlice es_104 ze_104 (by decide) ba_104_4, lenA_sl lk_104, loadA_eq ia_103, sz_103, o_fieldAddr fa_103_2 (by decide), o_fieldAddr fa_103_0 (by decide), o_fieldAddr fa_103_1 (by decide), o_fieldAddr fa_38_0 (by decide), o_fieldAddr fa_38_1 (by decide), o_fieldAddr fa_38_2 (by decide), o_fieldAddr fa_38_3 (by decide), loadA_eq ia_38, za_35, o_build za_35 pl_35, sz_35, o_indexAddrS es_39, ze_39, o_buildSlice es_39 ze_39 (by decide) ba_39_1, ap_39, builtin_append ni_39, ze_22, o_buildSlice es_22 ze_22 (by decide) ba_22_1, ap_22, builtin_append ni_22, za_38, o_build za_38 pl_38, sz_38, o_indexAddrS es_42, ze_42, o_buildSlice es_42 ze_42 (by decide) ba_42_1, ap_42, builtin_append ni_42, lenA_sl lk_39, lenA_sl lk_42, n4_1s, n4_4s, n4_7s, n4_8s, n4_6s, n4_9s, n4_5s, n4_3s, n4_11s, n4_13s, n4_15s, n4_17s, n4_19s, n4_22s, n4_25s, n4_26s, n4_24s, n4_27s, n4_23s, n4_21s, n4_30s, n4_35s, n4_37s, n4_38s, n4_36s, n4_34s, n4_42s, n4_45s, n4_46s, n4_44s, n4_47s, n4_43s, n4_41s, n4_40s, n4_48s, n4_39s, n4_33s, n4_31s, n4_29s, n4_50s, n4_51s, n4_49s, n4_28s, n4_20s, n4_18s, n4_16s, n4_14s, n4_12s, n4_10s, n4_2s, n4_0s, want_some q4_22g3, want_some q4_22g8, want_some q4_22g13, want_some q4_22g20, want_some q4_22g27, want_some q4_42g9, Try.f4, hn', k14]
end Go.Proofs.Ytgpcjdhlijompaa.ore

namespace Go.Proofs.Ytgpcjdhlijompaa.ore
open Go.GE
set_option linter.unusedVariables false
set_option linter.unusedSimpArgs false
set_option maxRecDepth 100000
theorem c4n (w hh o : Int) (X Y W H : Int) : LL.run 4 [fvn w hh o, bv X Y W H] [] = some ⟨.bool true, [], []⟩ := by
  refine go (by decide) ?_
  rw [run4 _ _ _ (by simp)]
  have a1 := k19n w hh o
  have a2 := k20n w hh o X Y W H (fun _ => 0)
  have a3 := k21n w hh o X Y W H (fun _ => 0)
  have a4 := fun h : List Blk => k22n w hh o (fun _ => 0) (h := h)
  have a5 := fun h : List Blk => k23n w hh o (fun _ => 0) (h := h)
  generalize oreR w hh o 0 (fun _ => 0) = R at *
  generalize ires w hh o 0 (fun _ => 0) X Y W H = I at *
  simp (disch := first | omega | decide | assumption | simp [scal]) [runOps_nil, runOps_cons, runOpsF_nil, runOpsF_cons, fstS_some, fstF_some, opStep_eq, want_none, oStep_true, oStep_false, fin_pure, fin_read, fin_alloc, fin_write, storeB, wrN, cellV, addWr, o_move, o_assign, o_pick, o_alloc, o_box, o_load, o_store, o_nilCheck, o_bin, o_un, o_extract, o_callV, o_callB, o_callI, callV_f, callV_y, callV_fc, o_makeFunc, partsA, Instr.fill, builtin_len, builtin_max2, bin_add, bin_sub, bin_mul, bin_quo, bin_rem, bin_lss, bin_leq, bin_gtr, bin_geq, bin_eql, bin_neq, un_neg, un_not, opd, opds, optAll, lk, putO, put, has, rep, nbeq, nblt, constOk, isC, ops, sub, cl, cr, co, bodyOf, thenS_normal, thenS_ret, thenS_exit, thenS_goto, afterN_normal, afterN_ret, afterN_exit, afterN_goto, condS_true, condS_false, blockS_normal, blockS_ret, blockS_exit, blockS_goto, loopS_exit, loopS_ret, plainS_some, drawS_some, fpsOk, disj, unord, mem, range', dropTo, enumT, undef, wrap_i64_id, Value.cells, mkCells, ptrTo, scal, cellsAt, rdN, endS_ret, resultsA, Option.bind_some, tupV, finish, reach, reachN, dep, ptrL_eq, ptrL, renL_eq, renL, ptrV_bool, ptrV_int, ptrV_string, ptrV_nilFunc, ptrV_nilIface, ptrV_nilPtr, ptrV_ptr, ptrV_nilSl, ptrV_sl, ptrV_iface, ptrV_agg, ptrV_tuple, ptrV_func, renV_bool, renV_int, renV_string, renV_nilFunc, renV_nilIface, renV_nilPtr, renV_ptr, renV_nilSl, renV_sl, renV_iface, renV_agg, renV_tuple, renV_func, o_fieldAddr fa_24_2 (by decide), loadA_eq ia_3, o_fieldAddr fa_24_3 (by decide), loadA_eq ia_22, o_fieldAddr fa_24_0 (by decide), o_indexAddrS es_22, o_fieldAddr fa_24_1 (by decide), lenA_sl lk_22, loadA_eq ia_24, loadA_eq ia_31, o_fieldAddr fa_31_2 (by decide), o_fieldAddr fa_31_3 (by decide), o_fieldAddr fa_31_0 (by decide), o_fieldAddr fa_31_1 (by decide), za_31, sz_31, o_fieldAddr fa_35_0 (by decide), o_fieldAddr fa_35_1 (by decide), o_fieldAddr fa_35_2 (by decide), o_fieldAddr fa_35_3 (by decide), za_3, sz_3, loadA_eq ia_35, za_103, o_build za_103 pl_103, o_indexAddrS es_104, ze_104, o_buildSlice es_104 ze_104 (by decide) ba_104_4, lenA_sl lk_104, loadA_eq ia_103, sz_103, o_fieldAddr fa_103_2 (by decide), o_fieldAddr fa_103_0 (by decide), o_fieldAddr fa_103_1 (by decide), o_fieldAddr fa_38_0 (by decide), o_fieldAddr fa_38_1 (by decide), o_fieldAddr fa_38_2 (by decide), o_fieldAddr fa_38_3 (by decide), loadA_eq ia_38, za_35, o_build za_35 pl_35, sz_35, o_indexAddrS es_39, ze_39, o_buildSlice es_39 ze_39 (by decide) ba_39_1, ap_39, builtin_append ni_39, ze_22, o_buildSlice es_22 ze_22 (by decide) ba_22_1, ap_22, builtin_append ni_22, za_38, o_build za_38 pl_38, sz_38, o_indexAddrS es_42, ze_42, o_buildSlice es_42 ze_42 (by decide) ba_42_1, ap_42, builtin_append ni_42, lenA_sl lk_39, lenA_sl lk_42, n4_1s, n4_4s, n4_7s, n4_8s, n4_6s, n4_9s, n4_5s, n4_3s, n4_11s, n4_13s, n4_15s, n4_17s, n4_19s, n4_22s, n4_25s, n4_26s, n4_24s, n4_27s, n4_23s, n4_21s, n4_30s, n4_35s, n4_37s, n4_38s, n4_36s, n4_34s, n4_42s, n4_45s, n4_46s, n4_44s, n4_47s, n4_43s, n4_41s, n4_40s, n4_48s, n4_39s, n4_33s, n4_31s, n4_29s, n4_50s, n4_51s, n4_49s, n4_28s, n4_20s, n4_18s, n4_16s, n4_14s, n4_12s, n4_10s, n4_2s, n4_0s, want_some q4_22g3, want_some q4_22g8, want_some q4_22g13, want_some q4_22g20, want_some q4_22g27, want_some q4_42g9, Try.f4, a1, a2, a3, a4, a5, k14, lenA_sl lk_39, lenA_sl lk_42]
  rw [n4_32s]
  simp (disch := first | omega | decide | assumption | simp [scal]) [runOps_nil, runOps_cons, runOpsF_nil, runOpsF_cons, fstS_some, fstF_some, opStep_eq, want_none, oStep_true, oStep_false, fin_pure, fin_read, fin_alloc, fin_write, storeB, wrN, cellV, addWr, o_move, o_assign, o_pick, o_alloc, o_box, o_load, o_store, o_nilCheck, o_bin, o_un, o_extract, o_callV, o_callB, o_callI, callV_f, callV_y, callV_fc, o_makeFunc, partsA, Instr.fill, builtin_len, builtin_max2, bin_add, bin_sub, bin_mul, bin_quo, bin_rem, bin_lss, bin_leq, bin_gtr, bin_geq, bin_eql, bin_neq, un_neg, un_not, opd, opds, optAll, lk, putO, put, has, rep, nbeq, nblt, constOk, isC, ops, sub, cl, cr, co, bodyOf, thenS_normal, thenS_ret, thenS_exit, thenS_goto, afterN_normal, afterN_ret, afterN_exit, afterN_goto, condS_true, condS_false, blockS_normal, blockS_ret, blockS_exit, blockS_goto, loopS_exit, loopS_ret, plainS_some, drawS_some, fpsOk, disj, unord, mem, range', dropTo, enumT, undef, wrap_i64_id, Value.cells, mkCells, ptrTo, scal, cellsAt, rdN, endS_ret, resultsA, Option.bind_some, tupV, finish, reach, reachN, dep, ptrL_eq, ptrL, renL_eq, renL, ptrV_bool, ptrV_int, ptrV_string, ptrV_nilFunc, ptrV_nilIface, ptrV_nilPtr, ptrV_ptr, ptrV_nilSl, ptrV_sl, ptrV_iface, ptrV_agg, ptrV_tuple, ptrV_func, renV_bool, renV_int, renV_string, renV_nilFunc, renV_nilIface, renV_nilPtr, renV_ptr, renV_nilSl, renV_sl, renV_iface, renV_agg, renV_tuple, renV_func, o_fieldAddr fa_24_2 (by decide), loadA_eq ia_3, o_fieldAddr fa_24_3 (by decide), loadA_eq ia_22, o_fieldAddr fa_24_0 (by decide), o_indexAddrS es_22, o_fieldAddr fa_24_1 (by decide), lenA_sl lk_22, loadA_eq ia_24, loadA_eq ia_31, o_fieldAddr fa_31_2 (by decide), o_fieldAddr fa_31_3 (by decide), o_fieldAddr fa_31_0 (by decide), o_fieldAddr fa_31_1 (by decide), za_31, sz_31, o_fieldAddr fa_35_0 (by decide), o_fieldAddr fa_35_1 (by decide), o_fieldAddr fa_35_2 (by decide), o_fieldAddr fa_35_3 (by decide), za_3, sz_3, loadA_eq ia_35, za_103, o_build za_103 pl_103, o_indexAddrS es_104, ze_104, o_buildSlice es_104 ze_104 (by decide) ba_104_4, lenA_sl lk_104, loadA_eq ia_103, sz_103, o_fieldAddr fa_103_2 (by decide), o_fieldAddr fa_103_0 (by decide), o_fieldAddr fa_103_1 (by decide), o_fieldAddr fa_38_0 (by decide), o_fieldAddr fa_38_1 (by decide), o_fieldAddr fa_38_2 (by decide), o_fieldAddr fa_38_3 (by decide), loadA_eq ia_38, za_35, o_build za_35 pl_35, sz_35, o_indexAddrS es_39, ze_39, o_buildSlice es_39 ze_39 (by decide) ba_39_1, ap_39, builtin_append ni_39, ze_22, o_buildSlice es_22 ze_22 (by decide) ba_22_1, ap_22, builtin_append ni_22, za_38, o_build za_38 pl_38, sz_38, o_indexAddrS es_42, ze_42, o_buildSlice es_42 ze_42 (by decide) ba_42_1, ap_42, builtin_append ni_42, lenA_sl lk_39, lenA_sl lk_42, n4_1s, n4_4s, n4_7s, n4_8s, n4_6s, n4_9s, n4_5s, n4_3s, n4_11s, n4_13s, n4_15s, n4_17s, n4_19s, n4_22s, n4_25s, n4_26s, n4_24s, n4_27s, n4_23s, n4_21s, n4_30s, n4_35s, n4_37s, n4_38s, n4_36s, n4_34s, n4_42s, n4_45s, n4_46s, n4_44s, n4_47s, n4_43s, n4_41s, n4_40s, n4_48s, n4_39s, n4_33s, n4_31s, n4_29s, n4_50s, n4_51s, n4_49s, n4_28s, n4_20s, n4_18s, n4_16s, n4_14s, n4_12s, n4_10s, n4_2s, n4_0s, want_some q4_22g3, want_some q4_22g8, want_some q4_22g13, want_some q4_22g20, want_some q4_22g27, want_some q4_42g9, Try.f4, k14, lenA_sl lk_39]
end Go.Proofs.Ytgpcjdhlijompaa.ore

