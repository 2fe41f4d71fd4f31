/-
  Contracts of functions of the program at the limit evaluator. No condition.
-/
import Derived.Test.YtgpcjdhlijompaaSCN
import Derived.OpenShut
import Derived.Test.YtgpcjdhlijompaaE38
import Derived.Test.YtgpcjdhlijompaaE40
namespace Go.Proofs.Ytgpcjdhlijompaa.oo
open Go.GE
set_option linter.unusedVariables false
set_option linter.unusedSimpArgs false
set_option linter.unusedSectionVars false
set_option maxRecDepth 100000
set_option maxHeartbeats 4000000
attribute [local simp] runOps_nil runOps_cons runOpsF_nil runOpsF_cons fstS_some fstF_some opStep_eq want_none oStep_true oStep_false fin_pure fin_read fin_alloc fin_write storeB wrN cellV addWr o_move o_assign o_pick o_alloc o_box o_load o_store o_nilCheck o_bin o_un o_extract o_callV o_callB o_callI callV_f callV_y callV_fc o_makeFunc partsA Instr.fill builtin_len builtin_max2 bin_add bin_sub bin_mul bin_quo bin_rem bin_lss bin_leq bin_gtr bin_geq bin_eql bin_neq un_neg un_not bin_shr bin_shl wrap_u64_id opd opds optAll putO nbeq nblt constOk isC ops sub cl cr co bodyOf thenS_normal thenS_ret thenS_exit thenS_goto afterN_normal afterN_ret afterN_exit afterN_goto condS_true condS_false blockS_normal blockS_ret blockS_exit blockS_goto headS normS normK_eq fixS_nil fixS_cons fix1 fixV emptyB keepO_nil keepO_cons roundC_normal roundC_exit roundC_ret roundC_goto sweep_eq sweepD rnm pickR pickW rootsB ptrT renT ptrFn renFn ptrB_flat ptrB_non renB_flat renB_non plainS_some drawS_some fpsOk disj unord range' dropTo enumT undef wrap_i64_id Value.cells mkCells ptrTo scal cellsAt rdN endS_ret resultsA Option.bind_some tupV finish reachN dep ptrL_eq ptrL renL_eq renL ptrV_bool ptrV_int ptrV_string ptrV_nilFunc ptrV_nilIface ptrV_nilPtr ptrV_ptr ptrV_nilSl ptrV_sl ptrV_iface ptrV_agg ptrV_tuple ptrV_func renV_bool renV_int renV_string renV_nilFunc renV_nilIface renV_nilPtr renV_ptr renV_nilSl renV_sl renV_iface renV_agg renV_tuple renV_func gotoS_goto gotoS_normal gotoS_exit gotoS_ret skip_seq sliceE bnd bndHi intOf optOpd keepT_nil keepT_cons keepC_t keepC_f lk_nil lk_cons lkC_t lkC_f has_nil has_cons hasC_t hasC_f rep_nil rep_cons repC_t repC_f put_eq putC_t putC_f mem_nil mem_cons memC_t memC_f idx_nil idx_cons idxC_t idxC_f reach_nil reach_cons reachC_t reachC_f
attribute [local simp] n36_1s n36_3s n36_4s n36_2s n36_0s Try.f36 n37_1s n37_3s n37_4s n37_2s n37_0s Try.f37 n40_1s n40_3s n40_4s n40_2s n40_0s Try.f40 n41_1s n41_3s n41_4s n41_2s n41_0s Try.f41 n43_1s n43_3s n43_4s n43_2s n43_0s Try.f43 n34_1s n34_3s n34_4s n34_2s n34_0s Try.f34
theorem other {f : FuncId} (hf : (14 : Nat) ≠ f) (a : List Value) (h : List Blk) : (wk.wtab.keep kpT).run f a h = none := by
  show GE.tabR [wk.ew] f a h = none
  have : Nat.beq wk.ew.f f = false := GE.beq_false.2 hf
  simp only [tabR, this, Bool.false_and, cond_false]
theorem go {f : FuncId} {args : List Value} {h : List Blk} {r : RR} (hf : (14 : Nat) ≠ f) (he : runB Try.prog LL f args h = some r) : LL.run f args h = some r := L_run (other hf _ _) he
theorem k14 (h : List Blk) : callH LL 14 [] h = some ⟨.bool true, h, [], []⟩ := callH_plain (L_tab rfl) rfl rfl
theorem k36 (a b c : Int) (h : List Blk) : callH LL 36 [iv a, iv b, iv c] h = some ⟨.bool (decide (a ≤ b) && decide (b ≤ c)), h, [], []⟩ := by
  refine callH_plain (go (by decide) ?_) rfl rfl
  rw [run36 _ _ _ (by simp)]
  by_cases h1 : a ≤ b <;> by_cases h2 : b ≤ c <;>
  simp (maxSteps := 1000000) (disch := first | omega | decide | assumption | simp [scal]) [want_some q36_3g3, h1, h2]
def turnS (a b : Int) : Int := 1800 - (a - b + 5400) % 3600
def isN (n : Int) : Prop := 0 ≤ n ∧ n < 3600
theorem k37 (a b : Int) (ha : isN a) (hb : isN b) (h : List Blk) : callH LL 37 [iv a, iv b] h = some ⟨iv (turnS a b), h, [], []⟩ := by
  obtain ⟨h1, h2⟩ := ha; obtain ⟨h3, h4⟩ := hb
  refine callH_plain (go (by decide) ?_) rfl rfl
  have e : Int.tmod (a - b + 1800 + 3600) 3600 = (a - b + 5400) % 3600 := by
    rw [Int.tmod_eq_emod_of_nonneg (by omega)]; congr 1; omega
  rw [run37 _ _ _ (by simp)]
  simp (maxSteps := 1000000) (disch := first | omega | decide | assumption | simp [scal]) [e, turnS]
theorem turnS_small (a b : Int) : -1800 < turnS a b ∧ turnS a b ≤ 1800 := by unfold turnS; omega
/-- a field's value: its needles lie in a block b, from off on -/
abbrev fv (w hh o : Int) (b off n c : Nat) : Value := .agg #[iv w, iv hh, iv o, .slice (some ⟨b, off, none⟩) n c]
def small (x : Int) : Prop := -100000 ≤ x ∧ x ≤ 100000
theorem ren_plains {f : Nat → Option Nat} {vs : List Value} (hv : vs.all plain = true) : optAll (renV f dep) vs = some vs := by
  induction vs with
  | nil => rfl
  | cons v vs ih =>
    simp only [List.all_cons, Bool.and_eq_true] at hv
    have e : renV f dep v = some v := renV_plain (d := 4) hv.1
    simp only [optAll, e, ih hv.2]
theorem ptr_plains {vs : List Value} (hv : vs.all plain = true) : vs.flatMap (ptrV dep) = [] := by
  induction vs with
  | nil => rfl
  | cons v vs ih =>
    simp only [List.all_cons, Bool.and_eq_true] at hv
    simp only [List.flatMap_cons, ih hv.2, List.append_nil]
    cases v with
    | agg cs =>
      have h' : cs.toList.all scal = true := hv.1
      exact ptrV_scal h'
    | tuple cs =>
      have h' : cs.toList.all scal = true := hv.1
      exact ptrV_scal h'
    | _ => have := hv.1; simp [plain, scal] at this <;> rfl
theorem ren_fv2 {w hh o : Int} {b off n c : Nat} {vs : List Value} (hv : vs.all plain = true) : optAll (renV (idx [b]) dep) (fv w hh o b off n c :: vs) = some (fv w hh o 0 off n c :: vs) := by
  have e : renV (idx [b]) dep (fv w hh o b off n c) = some (fv w hh o 0 off n c) := by
    simp [renV, dep, optAll, idx, nbeq]
  simp only [optAll, e, ren_plains hv]
theorem ptr_fv2 {w hh o : Int} {b off n c : Nat} {vs : List Value} (hv : vs.all plain = true) : (fv w hh o b off n c :: vs).flatMap (ptrV dep) = [b] := by
  simp only [List.flatMap_cons, ptr_plains hv, List.append_nil]
  simp [ptrV, dep]
theorem callG {f : FuncId} {w hh o : Int} {b off n c : Nat} {vs : List Value} {v : Value} {h : List Blk} {cs : List Value} {own : Bool} (hb : h[b]? = some (.cells cs 1 true own)) (hv : vs.all plain = true)
    (he : LL.run f (fv w hh o 0 off n c :: vs) [.cells cs 1 true own] = some ⟨v, [], []⟩) (hp : plain v = true) (hk : idle LL f (fv w hh o b off n c :: vs) := by intro _; first | trivial | rfl) : callH LL f (fv w hh o b off n c :: vs) h = some ⟨v, h, [b], []⟩ :=
  callH_1 (ptr_fv2 hv) hb noIdB_flat (ren_fv2 hv) he (fun g => renV_plain (d := 4) hp) hk
theorem k40 (w hh o : Int) (b off n c : Nat) (t : Int) {h : List Blk} {cs : List Value} {own : Bool} (hb : h[b]? = some (.cells cs 1 true own)) (ho : small o) (ht : small t) :
    callH LL 40 [fv w hh o b off n c, iv t] h = some ⟨.bool (decide (max t (-t) + 2 * o < 1800)), h, [b], []⟩ := by
  obtain ⟨h1, h2⟩ := ho; obtain ⟨h3, h4⟩ := ht
  have e : (if t < -t then -t else t) = max t (-t) := by omega
  refine callG hb rfl (go (by decide) ?_) rfl
  rw [run40 _ _ _ (by simp)]
  simp (maxSteps := 1000000) (disch := first | omega | decide | assumption | simp [scal]) [o_fieldAddr fa_24_2 (by decide), loadA_eq ia_3, e]
theorem k41 (w hh o : Int) (b off n c : Nat) (x y : Int) (i : Nat) {v : Int} {h : List Blk} {cs : List Value} {own : Bool} (hb : h[b]? = some (.cells cs 1 true own)) (h1 : small x) (h2 : small y) (h3 : 0 ≤ w) (h4 : w ≤ 9) (hi : y * w + x = i) (hn : i < n) (hc : cs[off + i]? = some (iv v)) :
    callH LL 41 [fv w hh o b off n c, iv x, iv y] h = some ⟨iv v, h, [b], []⟩ := by
  obtain ⟨x1, x2⟩ := h1; obtain ⟨y1, y2⟩ := h2
  have m1 : -900000 ≤ y * w := by have := Int.mul_le_mul_of_nonneg_left h4 (show (0:Int) ≤ 100000 by omega); have := Int.mul_le_mul_of_nonneg_right y1 h3; omega
  have m2 : y * w ≤ 900000 := by have := Int.mul_le_mul_of_nonneg_right y2 h3; omega
  refine callG hb rfl (go (by decide) ?_) rfl
  rw [run41 _ _ _ (by simp)]
  simp (maxSteps := 1000000) (disch := first | omega | decide | assumption | simp [scal]) [o_fieldAddr fa_24_3 (by decide), loadA_eq ia_22, o_fieldAddr fa_24_0 (by decide), loadA_eq ia_3, o_indexAddrS es_22, hi, hn, hc]
/-- a block's value -/
abbrev bv (X Y W H : Int) : Value := .agg #[iv X, iv Y, iv W, iv H]
def hasB (w hh X Y W H : Int) : Prop := (0 ≤ X ∧ X ≤ w - 2) ∧ (0 ≤ Y ∧ Y ≤ hh - 2) ∧ (1 ≤ W ∧ W ≤ w - 1 - X) ∧ (1 ≤ H ∧ H ≤ hh - 1 - Y)
theorem k43 (w hh o : Int) (b off n c : Nat) (X Y W H : Int) {h : List Blk} {cs : List Value} {own : Bool} (hb : h[b]? = some (.cells cs 1 true own)) (h1 : 2 ≤ w ∧ w ≤ 9) (h2 : 2 ≤ hh ∧ hh ≤ 9) (e : hasB w hh X Y W H) :
    callH LL 43 [fv w hh o b off n c, bv X Y W H] h = some ⟨.bool true, h, [b], []⟩ := by
  refine callG hb rfl (go (by decide) ?_) rfl
  rw [run43 _ _ _ (by simp)]
  obtain ⟨a1, a2, a3, a4⟩ := e
  simp (maxSteps := 1000000) (disch := first | omega | decide | assumption | simp [scal]) [o_fieldAddr fa_35_0 (by decide), loadA_eq ia_3, o_fieldAddr fa_24_0 (by decide), o_fieldAddr fa_35_1 (by decide), o_fieldAddr fa_24_1 (by decide), o_fieldAddr fa_35_2 (by decide), o_fieldAddr fa_35_3 (by decide), want_some q43_3g6, want_some q43_3g14, want_some q43_3g25, k36, a1, a2, a3, a4]
theorem k34 (X Y W H : Int) (h : List Blk) : callH LL 34 [iv X, iv Y, iv W, iv H] h = some ⟨bv X Y W H, h, [], []⟩ := by
  refine callH_plain (go (by decide) ?_) rfl rfl
  rw [run34 _ _ _ (by simp)]
  simp (maxSteps := 1000000) (disch := first | omega | decide | assumption | simp [scal]) [za_35, o_build za_35 pl_35, sz_35, loadA_eq ia_35]
end Go.Proofs.Ytgpcjdhlijompaa.oo
namespace Go.Proofs.Ytgpcjdhlijompaa.oo
open Go.GE
set_option linter.unusedVariables false
set_option linter.unusedSimpArgs false
set_option linter.unusedSectionVars false
set_option maxRecDepth 100000
set_option maxHeartbeats 4000000
attribute [local simp] runOps_nil runOps_cons runOpsF_nil runOpsF_cons fstS_some fstF_some opStep_eq want_none oStep_true oStep_false fin_pure fin_read fin_alloc fin_write storeB wrN cellV addWr o_move o_assign o_pick o_alloc o_box o_load o_store o_nilCheck o_bin o_un o_extract o_callV o_callB o_callI callV_f callV_y callV_fc o_makeFunc partsA Instr.fill builtin_len builtin_max2 bin_add bin_sub bin_mul bin_quo bin_rem bin_lss bin_leq bin_gtr bin_geq bin_eql bin_neq un_neg un_not bin_shr bin_shl wrap_u64_id opd opds optAll putO nbeq nblt constOk isC ops sub cl cr co bodyOf thenS_normal thenS_ret thenS_exit thenS_goto afterN_normal afterN_ret afterN_exit afterN_goto condS_true condS_false blockS_normal blockS_ret blockS_exit blockS_goto headS normS normK_eq fixS_nil fixS_cons fix1 fixV emptyB keepO_nil keepO_cons roundC_normal roundC_exit roundC_ret roundC_goto sweep_eq sweepD rnm pickR pickW rootsB ptrT renT ptrFn renFn ptrB_flat ptrB_non renB_flat renB_non plainS_some drawS_some fpsOk disj unord range' dropTo enumT undef wrap_i64_id Value.cells mkCells ptrTo scal cellsAt rdN endS_ret resultsA Option.bind_some tupV finish reachN dep ptrL_eq ptrL renL_eq renL ptrV_bool ptrV_int ptrV_string ptrV_nilFunc ptrV_nilIface ptrV_nilPtr ptrV_ptr ptrV_nilSl ptrV_sl ptrV_iface ptrV_agg ptrV_tuple ptrV_func renV_bool renV_int renV_string renV_nilFunc renV_nilIface renV_nilPtr renV_ptr renV_nilSl renV_sl renV_iface renV_agg renV_tuple renV_func gotoS_goto gotoS_normal gotoS_exit gotoS_ret skip_seq sliceE bnd bndHi intOf optOpd keepT_nil keepT_cons keepC_t keepC_f lk_nil lk_cons lkC_t lkC_f has_nil has_cons hasC_t hasC_f rep_nil rep_cons repC_t repC_f put_eq putC_t putC_f mem_nil mem_cons memC_t memC_f idx_nil idx_cons idxC_t idxC_f reach_nil reach_cons reachC_t reachC_f
attribute [local simp] n17_1s n17_5s n17_8s n17_9s n17_7s n17_11s n17_14s n17_15s n17_13s n17_16s n17_12s n17_10s n17_6s n17_4s n17_3s n17_19s n17_23s n17_26s n17_27s n17_25s n17_31s n17_33s n17_36s n17_37s n17_35s n17_38s n17_34s n17_32s n17_30s n17_29s n17_39s n17_28s n17_24s n17_22s n17_21s n17_21g n17_20s n17_18s n17_42s n17_46s n17_49s n17_50s n17_48s n17_54s n17_56s n17_58s n17_61s n17_62s n17_60s n17_63s n17_59s n17_57s n17_55s n17_53s n17_52s n17_64s n17_51s n17_47s n17_45s n17_44s n17_44g n17_43s n17_41s n17_66s n17_67s n17_65s n17_40s n17_17s n17_2s n17_0s Try.f17
/-- less than half a turn in every truth -/
def sureS (o t : Int) : Prop := max t (-t) + 2 * o < 1800
def badL (W : Nat) (o : Int) (nd : Nat → Int) (i : Nat) : Prop := 0 < i % W ∧ ¬ sureS o (turnS (nd i) (nd (i - 1)))
def badU (W : Nat) (o : Int) (nd : Nat → Int) (i : Nat) : Prop := 0 < i / W ∧ ¬ sureS o (turnS (nd i) (nd (i - W)))
def badAt (W : Nat) (o : Int) (nd : Nat → Int) (i : Nat) : Prop := badL W o nd i ∨ badU W o nd i
theorem left_idx {W i x y : Nat} (hx : i % W = x) (hy : i / W = y) (x0 : 0 < x) : (y : Int) * W + (x - 1) = ((i - 1 : Nat) : Int) := by
  have em := Nat.div_add_mod i W
  rw [hx, hy] at em
  have : ((W * y : Nat) : Int) = (W : Int) * y := by simp
  rw [Int.mul_comm]
  omega
theorem up_idx {W i x y : Nat} (hx : i % W = x) (hy : i / W = y) (y0 : 0 < y) : ((y : Int) - 1) * W + x = ((i - W : Nat) : Int) := by
  have em := Nat.div_add_mod i W
  rw [hx, hy] at em
  obtain ⟨z, rfl⟩ : ∃ z, y = z + 1 := ⟨y - 1, by omega⟩
  have h1 : W * (z + 1) = W * z + W := by rw [Nat.mul_add, Nat.mul_one]
  have h2 : ((W * z : Nat) : Int) = (W : Int) * z := by simp
  have h3 : (((z + 1 : Nat) : Int) - 1) * W = (W : Int) * z := by rw [show (((z + 1 : Nat) : Int) - 1) = (z : Int) by omega, Int.mul_comm]
  rw [h3]
  omega
/-- the needle of a point -/
def gr (Wf : Nat) (nd : Nat → Int) (x y : Nat) : Int := nd (y * Wf + x)
/-- a field that is checked -/
structure Fld (Wf HH : Nat) (o : Int) (off n : Nat) (cs : List Value) (nd : Nat → Int) : Prop where
  hw : 2 ≤ Wf ∧ Wf ≤ 9
  hh : 2 ≤ HH ∧ HH ≤ 9
  ho : 0 ≤ o ∧ o ≤ 400
  hn : n = HH * Wf
  hc : ∀ i, i < n → cs[off + i]? = some (iv (nd i))
  his : ∀ i, i < n → isN (nd i)
theorem Fld.at {Wf HH : Nat} {o : Int} {off n : Nat} {cs : List Value} {nd : Nat → Int} (F : Fld Wf HH o off n cs nd) {x y : Nat} (hx : x < Wf) (hy : y < HH) :
    isN (gr Wf nd x y) ∧ ∃ j : Nat, (y : Int) * Wf + x = j ∧ j < n ∧ cs[off + j]? = some (iv (gr Wf nd x y)) := by
  have hj : y * Wf + x < n := by
    have := Nat.mul_le_mul_right Wf (show y + 1 ≤ HH by omega)
    rw [Nat.add_mul, Nat.one_mul] at this
    rw [F.hn]; omega
  exact ⟨F.his _ hj, y * Wf + x, by simp, hj, F.hc _ hj⟩
theorem Fld.n81 {Wf HH : Nat} {o : Int} {off n : Nat} {cs : List Value} {nd : Nat → Int} (F : Fld Wf HH o off n cs nd) : n ≤ 81 := by
  have h1 := F.hw; have h2 := F.hh; have h3 := F.hn
  have := Nat.mul_le_mul h2.2 h1.2
  omega
abbrev fb (w hh o : Int) (b off n c : Nat) : Blk := .cells [iv w, iv hh, iv o, .slice (some ⟨b, off, none⟩) n c] 1 false true
section
variable {W HH : Nat} {o : Int} {off n : Nat} (c : Nat) {cs : List Value} (own : Bool) {nd : Nat → Int} (F : Fld W HH o off n cs nd)
include F
theorem l17a : ∀ k i : Nat, i + k = n →
    lpB Try.prog LL ⟨17, 94, 1, none⟩ n17_21 n17_22 ⟨[(1, .pointer (some ⟨1, 0, none⟩)), (37, .slice (some ⟨0, off, none⟩) n c), (38, iv n), (39, iv i)], [.cells cs 1 true own, fb W HH o 0 off n c], []⟩ =
      some (.exit 1, ⟨[(1, .pointer (some ⟨1, 0, none⟩))], [.cells cs 1 true own, fb W HH o 0 off n c], []⟩) := by
  have n81 := F.n81
  intro k
  induction k with
  | zero =>
    intro i hi
    obtain rfl : i = n := by omega
    rw [lpB_eq]
    simp (maxSteps := 1000000) (disch := first | omega | decide | assumption | simp [scal]) [o_fieldAddr fa_24_0 (by decide), loadA_eq ia_3, o_fieldAddr fa_24_1 (by decide), o_fieldAddr fa_24_2 (by decide), o_fieldAddr fa_24_3 (by decide), loadA_eq ia_22, lenA_sl lk_22, o_indexAddrS es_22, loadA_eq ia_24, want_some q17_5g4, want_some q17_5g10, want_some q17_58g2, want_some q17_58g14, want_some q17_58g17]
  | succ k ih =>
    intro i hi
    have e1 : i < n := by omega
    have e1' : (i : Int) < n := by omega
    have e2 := F.hc i e1
    obtain ⟨e4, e5⟩ := F.his i e1
    have e6 : nd i ≤ 3599 := by omega
    have this := ih (i + 1) (by omega)
    simp only [cast1] at this
    rw [lpB_eq]
    simp (maxSteps := 1000000) (disch := first | omega | decide | assumption | simp [scal]) [o_fieldAddr fa_24_0 (by decide), loadA_eq ia_3, o_fieldAddr fa_24_1 (by decide), o_fieldAddr fa_24_2 (by decide), o_fieldAddr fa_24_3 (by decide), loadA_eq ia_22, lenA_sl lk_22, o_indexAddrS es_22, loadA_eq ia_24, want_some q17_5g4, want_some q17_5g10, want_some q17_58g2, want_some q17_58g14, want_some q17_58g17, k36, e1, e1', e2, e4, e6, this]
theorem l17c (hg : ∀ i, i < n → ¬ badAt W o nd i) : ∀ k i : Nat, i + k = n →
    lpB Try.prog LL ⟨17, 94, 1, none⟩ n17_44 n17_45 ⟨[(1, .pointer (some ⟨1, 0, none⟩)), (48, .slice (some ⟨0, off, none⟩) n c), (49, iv n), (50, iv i)], [.cells cs 1 true own, fb W HH o 0 off n c], []⟩ =
      some (.exit 3, ⟨[], [.cells cs 1 true own], []⟩) := by
  have n81 := F.n81
  have hW := F.hw
  have ho := F.ho
  intro k
  induction k with
  | zero =>
    intro i hi
    obtain rfl : i = n := by omega
    rw [lpB_eq]
    simp (maxSteps := 1000000) (disch := first | omega | decide | assumption | simp [scal]) [o_fieldAddr fa_24_0 (by decide), loadA_eq ia_3, o_fieldAddr fa_24_1 (by decide), o_fieldAddr fa_24_2 (by decide), o_fieldAddr fa_24_3 (by decide), loadA_eq ia_22, lenA_sl lk_22, o_indexAddrS es_22, loadA_eq ia_24, want_some q17_5g4, want_some q17_5g10, want_some q17_58g2, want_some q17_58g14, want_some q17_58g17]
  | succ k ih =>
    intro i hi
    have e1 : i < n := by omega
    have e1' : (i : Int) < n := by omega
    have e2 := F.hc i e1
    have e3 := F.his i e1
    have this := ih (i + 1) (by omega)
    have hg := hg i e1
    have et : Int.tmod (i : Int) (W : Int) = ((i % W : Nat) : Int) := rfl
    have ed : Int.tdiv (i : Int) (W : Int) = ((i / W : Nat) : Int) := rfl
    have em := Nat.div_add_mod i W
    have lx : i % W < W := Nat.mod_lt _ (by omega)
    have ly : i / W ≤ i := Nat.div_le_self _ _
    simp only [badAt, badL, badU, not_or, not_and, Classical.not_not] at hg
    obtain ⟨g1, g2⟩ := hg
    simp only [cast1] at this ⊢
    have hne : ((W : Nat) : Int) ≠ 0 := by omega
    have hsm : ∀ j : Nat, small (turnS (nd i) (nd j)) := fun j => by have := turnS_small (nd i) (nd j); unfold small; omega
    have hso : small o := by unfold small; omega
    generalize hx : i % W = x at *
    generalize hy : i / W = y at *
    by_cases x0 : 0 < x
    · have x0' : (0 : Int) < x := by omega
      have i1 : i - 1 < n := by omega
      have e4 := F.hc _ i1
      have e5 := F.his _ i1
      have a1 := fun bx : Blk => k41 (W : Int) HH o 0 off n c (x - 1) y (i - 1) (h := [.cells cs 1 true own, bx]) rfl (by unfold small; omega) (by unfold small; omega) (by omega) (by omega) (left_idx hx hy x0) i1 e4
      have a2 := k37 (nd i) (nd (i - 1)) e3 e5
      have a3 := fun bx : Blk => k40 (W : Int) HH o 0 off n c (turnS (nd i) (nd (i - 1))) (h := [.cells cs 1 true own, bx]) rfl hso (hsm _)
      have g3 := g1 x0
      unfold sureS at g3
      by_cases y0 : 0 < y
      · have y0' : (0 : Int) < y := by omega
        have i2 : i - W < n := by omega
        have e6 := F.hc _ i2
        have e7 := F.his _ i2
        have b1 := fun bx : Blk => k41 (W : Int) HH o 0 off n c x (y - 1) (i - W) (h := [.cells cs 1 true own, bx]) rfl (by unfold small; omega) (by unfold small; omega) (by omega) (by omega) (up_idx hx hy y0) i2 e6
        have b2 := k37 (nd i) (nd (i - W)) e3 e7
        have b3 := fun bx : Blk => k40 (W : Int) HH o 0 off n c (turnS (nd i) (nd (i - W))) (h := [.cells cs 1 true own, bx]) rfl hso (hsm _)
        have g4 := g2 y0
        unfold sureS at g4
        rw [lpB_eq]
        simp (maxSteps := 1000000) (disch := first | omega | decide | assumption | simp [scal]) [o_fieldAddr fa_24_0 (by decide), loadA_eq ia_3, o_fieldAddr fa_24_1 (by decide), o_fieldAddr fa_24_2 (by decide), o_fieldAddr fa_24_3 (by decide), loadA_eq ia_22, lenA_sl lk_22, o_indexAddrS es_22, loadA_eq ia_24, want_some q17_5g4, want_some q17_5g10, want_some q17_58g2, want_some q17_58g14, want_some q17_58g17, e1, e1', e2, et, ed, hne, x0, y0, a1, a2, a3, g3, b1, b2, b3, g4, this]
      · have y0' : ¬ (0 : Int) < y := by omega
        rw [lpB_eq]
        simp (maxSteps := 1000000) (disch := first | omega | decide | assumption | simp [scal]) [o_fieldAddr fa_24_0 (by decide), loadA_eq ia_3, o_fieldAddr fa_24_1 (by decide), o_fieldAddr fa_24_2 (by decide), o_fieldAddr fa_24_3 (by decide), loadA_eq ia_22, lenA_sl lk_22, o_indexAddrS es_22, loadA_eq ia_24, want_some q17_5g4, want_some q17_5g10, want_some q17_58g2, want_some q17_58g14, want_some q17_58g17, e1, e1', e2, et, ed, hne, x0, y0, a1, a2, a3, g3, this]
    · have x0' : ¬ (0 : Int) < x := by omega
      by_cases y0 : 0 < y
      · have y0' : (0 : Int) < y := by omega
        have i2 : i - W < n := by omega
        have e6 := F.hc _ i2
        have e7 := F.his _ i2
        have b1 := fun bx : Blk => k41 (W : Int) HH o 0 off n c x (y - 1) (i - W) (h := [.cells cs 1 true own, bx]) rfl (by unfold small; omega) (by unfold small; omega) (by omega) (by omega) (up_idx hx hy y0) i2 e6
        have b2 := k37 (nd i) (nd (i - W)) e3 e7
        have b3 := fun bx : Blk => k40 (W : Int) HH o 0 off n c (turnS (nd i) (nd (i - W))) (h := [.cells cs 1 true own, bx]) rfl hso (hsm _)
        have g4 := g2 y0
        unfold sureS at g4
        rw [lpB_eq]
        simp (maxSteps := 1000000) (disch := first | omega | decide | assumption | simp [scal]) [o_fieldAddr fa_24_0 (by decide), loadA_eq ia_3, o_fieldAddr fa_24_1 (by decide), o_fieldAddr fa_24_2 (by decide), o_fieldAddr fa_24_3 (by decide), loadA_eq ia_22, lenA_sl lk_22, o_indexAddrS es_22, loadA_eq ia_24, want_some q17_5g4, want_some q17_5g10, want_some q17_58g2, want_some q17_58g14, want_some q17_58g17, e1, e1', e2, et, ed, hne, x0, y0, b1, b2, b3, g4, this]
      · have y0' : ¬ (0 : Int) < y := by omega
        rw [lpB_eq]
        simp (maxSteps := 1000000) (disch := first | omega | decide | assumption | simp [scal]) [o_fieldAddr fa_24_0 (by decide), loadA_eq ia_3, o_fieldAddr fa_24_1 (by decide), o_fieldAddr fa_24_2 (by decide), o_fieldAddr fa_24_3 (by decide), loadA_eq ia_22, lenA_sl lk_22, o_indexAddrS es_22, loadA_eq ia_24, want_some q17_5g4, want_some q17_5g10, want_some q17_58g2, want_some q17_58g14, want_some q17_58g17, e1, e1', e2, et, ed, hne, x0, y0, this]
theorem c17 (hg : ∀ i, i < n → ¬ badAt W o nd i) : LL.run 17 [fv W HH o 0 off n c] [.cells cs 1 true own] = some ⟨iv 0, [], []⟩ := by
  refine go (by decide) ?_
  rw [run17 _ _ _ (by simp)]
  have hW := F.hw
  have hH := F.hh
  have ho := F.ho
  have n81 := F.n81
  have L1 := l17a c own F n 0 (by omega)
  have L2 := l17c c own F hg n 0 (by omega)
  have w1 : (2 : Int) ≤ W := by omega
  have w2 : (W : Int) ≤ 9 := by omega
  have h1 : (2 : Int) ≤ HH := by omega
  have h2 : (HH : Int) ≤ 9 := by omega
  have hm : (W : Int) * HH = n := by rw [Int.mul_comm, F.hn]; simp
  obtain ⟨o1, o2⟩ := ho
  simp only [Int.natCast_zero] at L1 L2
  simp (maxSteps := 1000000) (disch := first | omega | decide | assumption | simp [scal]) [o_fieldAddr fa_24_0 (by decide), loadA_eq ia_3, o_fieldAddr fa_24_1 (by decide), o_fieldAddr fa_24_2 (by decide), o_fieldAddr fa_24_3 (by decide), loadA_eq ia_22, lenA_sl lk_22, o_indexAddrS es_22, loadA_eq ia_24, want_some q17_5g4, want_some q17_5g10, want_some q17_58g2, want_some q17_58g14, want_some q17_58g17, k36, w1, w2, h1, h2, o1, o2, hm, L1, L2]
theorem k17 (hg : ∀ i, i < n → ¬ badAt W o nd i) {b : Nat} {h : List Blk} (hb : h[b]? = some (.cells cs 1 true own)) : callH LL 17 [fv W HH o b off n c] h = some ⟨iv 0, h, [b], []⟩ :=
  callG hb rfl (c17 c own F hg) rfl
end
end Go.Proofs.Ytgpcjdhlijompaa.oo
namespace Go.Proofs.Ytgpcjdhlijompaa.oo
open Go.GE
set_option linter.unusedVariables false
set_option linter.unusedSimpArgs false
set_option linter.unusedSectionVars false
set_option maxRecDepth 100000
set_option maxHeartbeats 4000000
attribute [local simp] runOps_nil runOps_cons runOpsF_nil runOpsF_cons fstS_some fstF_some opStep_eq want_none oStep_true oStep_false fin_pure fin_read fin_alloc fin_write storeB wrN cellV addWr o_move o_assign o_pick o_alloc o_box o_load o_store o_nilCheck o_bin o_un o_extract o_callV o_callB o_callI callV_f callV_y callV_fc o_makeFunc partsA Instr.fill builtin_len builtin_max2 bin_add bin_sub bin_mul bin_quo bin_rem bin_lss bin_leq bin_gtr bin_geq bin_eql bin_neq un_neg un_not bin_shr bin_shl wrap_u64_id opd opds optAll putO nbeq nblt constOk isC ops sub cl cr co bodyOf thenS_normal thenS_ret thenS_exit thenS_goto afterN_normal afterN_ret afterN_exit afterN_goto condS_true condS_false blockS_normal blockS_ret blockS_exit blockS_goto headS normS normK_eq fixS_nil fixS_cons fix1 fixV emptyB keepO_nil keepO_cons roundC_normal roundC_exit roundC_ret roundC_goto sweep_eq sweepD rnm pickR pickW rootsB ptrT renT ptrFn renFn ptrB_flat ptrB_non renB_flat renB_non plainS_some drawS_some fpsOk disj unord range' dropTo enumT undef wrap_i64_id Value.cells mkCells ptrTo scal cellsAt rdN endS_ret resultsA Option.bind_some tupV finish reachN dep ptrL_eq ptrL renL_eq renL ptrV_bool ptrV_int ptrV_string ptrV_nilFunc ptrV_nilIface ptrV_nilPtr ptrV_ptr ptrV_nilSl ptrV_sl ptrV_iface ptrV_agg ptrV_tuple ptrV_func renV_bool renV_int renV_string renV_nilFunc renV_nilIface renV_nilPtr renV_ptr renV_nilSl renV_sl renV_iface renV_agg renV_tuple renV_func gotoS_goto gotoS_normal gotoS_exit gotoS_ret skip_seq sliceE bnd bndHi intOf optOpd keepT_nil keepT_cons keepC_t keepC_f lk_nil lk_cons lkC_t lkC_f has_nil has_cons hasC_t hasC_f rep_nil rep_cons repC_t repC_f put_eq putC_t putC_f mem_nil mem_cons memC_t memC_f idx_nil idx_cons idxC_t idxC_f reach_nil reach_cons reachC_t reachC_f
attribute [local simp] n44_1s n44_3s n44_6s n44_9s n44_13s n44_15s n44_16s n44_14s n44_12s n44_17s n44_11s n44_10s n44_7s n44_5s n44_19s n44_20s n44_18s n44_4s n44_2s n44_0s Try.f44
abbrev pp (b : Nat) : Value := .pointer (some ⟨b, 0, none⟩)
abbrev c1 (n : Int) : Blk := .cells [iv n] 1 true true
noncomputable def lp44 (a b : Nat) : ALoop := ⟨.ready, none, 44, [(6, pp a), (5, pp b)], 22, #[11], n44_9, n44_10⟩
def stp (p : Int × Int) (n : Int) : Int × Int := (n, if p.1 < 0 then p.2 else p.2 + turnS p.1 n)
/-- a round of the range: last (block 1) and sum (block 2) -/
theorem r44 (l s n : Int) (hl : l = -1 ∨ isN l) (hn : isN n) (hs : -1000000 ≤ s ∧ s ≤ 1000000) :
    LL.rnd 0 [iv n] [.loop (lp44 1 2), c1 l, c1 s] = some ⟨.bool true, [], if l < 0 then [(0, .loop (lp44 1 2)), (1, c1 n)] else [(0, .loop (lp44 1 2)), (2, c1 (s + turnS l n)), (1, c1 n)]⟩ := by
  rw [show LL = L Try.prog (wk.wtab.keep kpT) from rfl, L_rnd_eq]
  have ts := turnS_small l n
  have e1 : codeB Try.prog LL ⟨44, 22, 3, some 0⟩ n44_9 ⟨[(11, iv n), (6, pp 1), (5, pp 2)], [.loop (lp44 1 2), c1 l, c1 s], []⟩ =
      some (.normal, ⟨[(7, iv n), (11, iv n), (6, pp 1), (5, pp 2)], [.loop (lp44 1 2), c1 l, c1 s], []⟩) := by
    simp (maxSteps := 1000000) (disch := first | omega | decide | assumption | simp [scal]) [za_3, sz_3, loadA_eq ia_24, loadA_eq ia_35, loadA_eq ia_3]
  have e2 : codeB Try.prog LL ⟨44, 22, 3, some 0⟩ n44_10 ⟨[(7, iv n), (11, iv n), (6, pp 1), (5, pp 2)], [.loop { lp44 1 2 with state := .busy }, c1 l, c1 s], [0]⟩ =
      some (.normal, ⟨[(7, iv n), (11, iv n), (6, pp 1), (5, pp 2)], if l < 0 then [.loop { lp44 1 2 with state := .busy }, c1 n, c1 s] else [.loop { lp44 1 2 with state := .busy }, c1 n, c1 (s + turnS l n)], if l < 0 then [0, 1] else [0, 2, 1]⟩) := by
    by_cases h0 : l < 0
    · have h0' : ¬ (0 ≤ l) := by omega
      simp only [h0, if_true]
      simp (maxSteps := 1000000) (disch := first | omega | decide | assumption | simp [scal]) [za_3, sz_3, loadA_eq ia_24, loadA_eq ia_35, loadA_eq ia_3, h0', ins]
    · have h0' : 0 ≤ l := by omega
      have hk := k37 l n (by rcases hl with h | h <;> first | omega | exact h) hn
      simp only [h0, if_false]
      simp (maxSteps := 1000000) (disch := first | omega | decide | assumption | simp [scal]) [za_3, sz_3, loadA_eq ia_24, loadA_eq ia_35, loadA_eq ia_3, h0', ins, hk]
  rw [rnd_step (lp := lp44 1 2) (l1 := lp44 1 2) (l2 := { lp44 1 2 with state := .busy }) rfl rfl rfl rfl rfl e1 rfl rfl e2 (by split <;> rfl)]
  by_cases h0 : l < 0
  · simp only [h0, if_true]
    simp (maxSteps := 1000000) (disch := first | omega | decide | assumption | simp [scal]) [ins, lp44, ptrB, renB]
  · simp only [h0, if_false]
    simp (maxSteps := 1000000) (disch := first | omega | decide | assumption | simp [scal]) [ins, lp44, ptrB, renB]
def yw (l : Int) : List Nat := if l < 0 then [0, 1] else [0, 2, 1]
theorem y56 (l s n : Int) (rest : List Blk) (hl : l = -1 ∨ isN l) (hn : isN n) (hs : -1000000 ≤ s ∧ s ≤ 1000000) :
    yieldH LL 0 [iv n] (.loop (lp44 1 2) :: c1 l :: c1 s :: rest) = some ⟨.bool true, .loop (lp44 1 2) :: c1 n :: c1 (stp (l, s) n).2 :: rest, [0, 1, 2], yw l⟩ := by
  have e := r44 l s n hl hn hs
  have hm : ∀ k : Nat, 10 < k → reach (.loop (lp44 1 2) :: c1 l :: c1 s :: rest) 0 k [0] [] = [0, 1, 2] := by
    intro k hk
    obtain ⟨k, rfl⟩ : ∃ j, k = j + 8 := ⟨k - 8, by omega⟩
    simp [reach, mem, nblt, nbeq, ptrB, lp44, ptrT, c1, ptrV_ptr, dep]
  unfold yieldH
  have hp : 0 :: ([iv n] : List Value).flatMap (ptrV dep) = [0] := rfl
  have hr : ∀ g, optAll (renV g dep) [iv n] = some [iv n] := fun _ => rfl
  simp only [hp, hm reachN (by decide), hr]
  simp only [lp44] at e ⊢
  by_cases h0 : l < 0
  · simp only [h0, if_true] at e
    simp [optAll, renB, renT, renV_ptr, dep, idx, nbeq, e, mergeB, renV_bool, nblt, stp, yw, h0]
  · simp only [h0, if_false] at e
    simp [optAll, renB, renT, renV_ptr, dep, idx, nbeq, e, mergeB, renV_bool, nblt, stp, yw, h0]
end Go.Proofs.Ytgpcjdhlijompaa.oo
namespace Go.Proofs.Ytgpcjdhlijompaa.oo
open Go.GE
set_option linter.unusedVariables false
set_option linter.unusedSimpArgs false
set_option linter.unusedSectionVars false
set_option maxRecDepth 100000
set_option maxHeartbeats 4000000
attribute [local simp] runOps_nil runOps_cons runOpsF_nil runOpsF_cons fstS_some fstF_some opStep_eq want_none oStep_true oStep_false fin_pure fin_read fin_alloc fin_write storeB wrN cellV addWr o_move o_assign o_pick o_alloc o_box o_load o_store o_nilCheck o_bin o_un o_extract o_callV o_callB o_callI callV_f callV_y callV_fc o_makeFunc partsA Instr.fill builtin_len builtin_max2 bin_add bin_sub bin_mul bin_quo bin_rem bin_lss bin_leq bin_gtr bin_geq bin_eql bin_neq un_neg un_not bin_shr bin_shl wrap_u64_id opd opds optAll putO nbeq nblt constOk isC ops sub cl cr co bodyOf thenS_normal thenS_ret thenS_exit thenS_goto afterN_normal afterN_ret afterN_exit afterN_goto condS_true condS_false blockS_normal blockS_ret blockS_exit blockS_goto headS normS normK_eq fixS_nil fixS_cons fix1 fixV emptyB keepO_nil keepO_cons roundC_normal roundC_exit roundC_ret roundC_goto sweep_eq sweepD rnm pickR pickW rootsB ptrT renT ptrFn renFn ptrB_flat ptrB_non renB_flat renB_non plainS_some drawS_some fpsOk disj unord range' dropTo enumT undef wrap_i64_id Value.cells mkCells ptrTo scal cellsAt rdN endS_ret resultsA Option.bind_some tupV finish reachN dep ptrL_eq ptrL renL_eq renL ptrV_bool ptrV_int ptrV_string ptrV_nilFunc ptrV_nilIface ptrV_nilPtr ptrV_ptr ptrV_nilSl ptrV_sl ptrV_iface ptrV_agg ptrV_tuple ptrV_func renV_bool renV_int renV_string renV_nilFunc renV_nilIface renV_nilPtr renV_ptr renV_nilSl renV_sl renV_iface renV_agg renV_tuple renV_func gotoS_goto gotoS_normal gotoS_exit gotoS_ret skip_seq sliceE bnd bndHi intOf optOpd keepT_nil keepT_cons keepC_t keepC_f lk_nil lk_cons lkC_t lkC_f has_nil has_cons hasC_t hasC_f rep_nil rep_cons repC_t repC_f put_eq putC_t putC_f mem_nil mem_cons memC_t memC_f idx_nil idx_cons idxC_t idxC_f reach_nil reach_cons reachC_t reachC_f
attribute [local simp] n56_1s n56_4s n56_8s n56_11s n56_12s n56_10s n56_16s n56_18s n56_22s n56_25s n56_26s n56_24s n56_31s n56_33s n56_34s n56_32s n56_30s n56_35s n56_29s n56_28s n56_36s n56_27s n56_23s n56_21s n56_20s n56_20g n56_19s n56_17s n56_15s n56_14s n56_37s n56_13s n56_9s n56_7s n56_6s n56_6g n56_5s n56_3s n56_38s n56_2s n56_0s Try.f56
def runF (p : Int × Int) (v : Nat → Int) : Nat → Int × Int
  | 0 => p
  | r + 1 => stp (runF p v r) (v r)
def okP (B : Int) (p : Int × Int) : Prop := (p.1 = -1 ∨ isN p.1) ∧ -B ≤ p.2 ∧ p.2 ≤ B
theorem stp_ok {B : Int} {p : Int × Int} {n : Int} (h : okP B p) (hn : isN n) (hB : 0 ≤ B) : okP (B + 1800) (stp p n) := by
  obtain ⟨h1, h2, h3⟩ := h
  have ts := turnS_small p.1 n
  refine ⟨.inr hn, ?_, ?_⟩ <;> (unfold stp; simp only; split <;> omega)
theorem runF_ok {B : Int} {p : Int × Int} {v : Nat → Int} (h : okP B p) (hB : 0 ≤ B) : ∀ r : Nat, (∀ i, i < r → isN (v i)) → okP (B + 1800 * r) (runF p v r) := by
  intro r
  induction r with
  | zero => intro _; simpa [runF] using h
  | succ r ih =>
    intro hv
    have := stp_ok (ih fun i hi => hv i (by omega)) (hv r (by omega)) (by omega)
    have e : B + 1800 * ((r : Nat) : Int) + 1800 = B + 1800 * ((r + 1 : Nat) : Int) := by omega
    rw [e] at this
    exact this
theorem okP.mono {B C : Int} {p : Int × Int} (h : okP B p) (hBC : B ≤ C) : okP C p := ⟨h.1, by have := h.2.1; omega, by have := h.2.2; omega⟩
/-- which blocks are written so far -/
def okW (W : List Nat) (p : Int × Int) : Prop := (W = [] ∧ p.1 = -1) ∨ (isN p.1 ∧ (W = [0, 1] ∨ W = [0, 1, 2]))
abbrev bb (X Y W H : Int) : Blk := .cells [iv X, iv Y, iv W, iv H] 1 true true
abbrev yd : Value := .func (.yield 0) #[] #[]
def sides (W H : Int) : Blk := .cells [iv 1, iv 0, iv W, iv 0, iv 1, iv H, iv (-1), iv 0, iv W, iv 0, iv (-1), iv H] 3 true true
section
variable (w hh o : Int) (off n c : Nat) (X Y W H : Int) (cs : List Value) (own : Bool)
noncomputable def H56 (p : Int × Int) (r : List Blk) : List Blk := .loop (lp44 1 2) :: c1 p.1 :: c1 p.2 :: bb X Y W H :: fb w hh o 5 off n c :: .cells cs 1 true own :: r
theorem l56i (i dx dy : Int) (nn : Nat) (px py : Nat → Int) (v : Nat → Int) (p : Int × Int) (hw : 0 ≤ w ∧ w ≤ 9) (hnn : nn ≤ 1000)
    (hx : ∀ r, px (r + 1) = px r + dx) (hy : ∀ r, py (r + 1) = py r + dy)
    (hv : ∀ r, r < nn → small (px r) ∧ small (py r) ∧ isN (v r) ∧ ∃ j : Nat, py r * w + px r = j ∧ j < n ∧ cs[off + j]? = some (iv (v r)))
    (hp : ∀ r, r ≤ nn → okP 1000000 (runF p v r)) (hd : -1 ≤ dx ∧ dx ≤ 1) (hd' : -1 ≤ dy ∧ dy ≤ 1) : ∀ k r : Nat, r + k = nn → ∀ Q, okW Q (runF p v r) → ∃ Q', okW Q' (runF p v nn) ∧
    lpB Try.prog LL ⟨56, 57, 6, none⟩ n56_20 n56_21 ⟨[(7, pp 6), (31, iv nn), (32, iv r), (0, yd), (2, pp 4), (4, iv (px r)), (5, iv (py r)), (24, .slice (some ⟨7, 0, none⟩) 4 4), (25, iv 4), (26, iv i)],
        H56 w hh o off n c X Y W H cs own (runF p v r) [.cells [iv dx, iv dy, iv nn] 1 true true, sides W H], Q⟩ =
      some (.exit 2, ⟨[(0, yd), (2, pp 4), (4, iv (px nn)), (5, iv (py nn)), (24, .slice (some ⟨6, 0, none⟩) 4 4), (25, iv 4), (26, iv i)],
        H56 w hh o off n c X Y W H cs own (runF p v nn) [sides W H], Q'⟩) := by
  intro k
  induction k with
  | zero =>
    intro r hr Q hQ
    obtain rfl : r = nn := by omega
    refine ⟨Q, hQ, ?_⟩
    rw [lpB_eq]
    generalize runF p v r = z at *
    simp only [H56, sides, lp44]
    rcases hQ with ⟨rfl, _⟩ | ⟨_, rfl | rfl⟩ <;>
    simp (maxSteps := 1000000) (disch := first | omega | decide | assumption | simp [scal]) [o_fieldAddr fa_35_0 (by decide), loadA_eq ia_3, o_fieldAddr fa_35_1 (by decide), o_fieldAddr fa_35_2 (by decide), za_103, o_build za_103 pl_103, o_fieldAddr fa_35_3 (by decide), o_indexAddrS es_104, ze_104, o_buildSlice es_104 ze_104 (by decide) ba_104_4, lenA_sl lk_104, loadA_eq ia_103, sz_103, o_fieldAddr fa_103_2 (by decide), loadA_eq ia_24, o_fieldAddr fa_103_0 (by decide), o_fieldAddr fa_103_1 (by decide), ptrB, renB]
  | succ k ih =>
    intro r hr Q hQ
    have e1 : r < nn := by omega
    have e1' : (r : Int) < nn := by omega
    obtain ⟨⟨x1, x2⟩, ⟨y1, y2⟩, e2, j, e3, e4, e5⟩ := hv r e1
    obtain ⟨p1, p2⟩ := hp r (by omega)
    have a1 := fun rest : List Blk => k41 w hh o 5 off n c (px r) (py r) j (h := .loop (lp44 1 2) :: c1 (runF p v r).1 :: c1 (runF p v r).2 :: bb X Y W H :: fb w hh o 5 off n c :: .cells cs 1 true own :: rest) rfl ⟨x1, x2⟩ ⟨y1, y2⟩ hw.1 hw.2 e3 e4 e5
    have a2 := fun rest : List Blk => y56 (runF p v r).1 (runF p v r).2 (v r) rest p1 e2 p2
    have hx' := hx r; have hy' := hy r
    have hr1 : runF p v (r + 1) = stp (runF p v r) (v r) := rfl
    have hf1 : (stp (runF p v r) (v r)).1 = v r := rfl
    have hQ1 : okW (if Q = [] then [0, 1] else [0, 1, 2]) (runF p v (r + 1)) := by
      right
      refine ⟨e2, ?_⟩
      split <;> simp
    obtain ⟨Q', hQ', this⟩ := ih (r + 1) (by omega) _ hQ1
    refine ⟨Q', hQ', ?_⟩
    rw [hr1, hx', hy'] at this
    have hyw : yw (runF p v r).1 = if Q = [] then [0, 1] else [0, 2, 1] := by
      unfold yw
      rcases hQ with ⟨rfl, h⟩ | ⟨h, rfl | rfl⟩
      · rw [if_pos (by omega), if_pos rfl]
      · rw [if_neg (by have := h.1; omega), if_neg (by simp)]
      · rw [if_neg (by have := h.1; omega), if_neg (by simp)]
    rw [hyw] at a2
    generalize hz : runF p v r = z at *
    generalize runF p v nn = zn at *
    have hz2 : stp (z.1, z.2) (v r) = stp z (v r) := rfl
    rw [hz2] at a2
    simp only [H56, cast1, hf1, sides] at this ⊢
    generalize (stp z (v r)).2 = sv at *
    generalize v r = vr at *
    generalize px nn = xn at *
    generalize py nn = yn at *
    generalize px r = xr at *
    generalize py r = yr at *
    rw [lpB_eq]
    simp only [lp44] at a1 a2 this ⊢
    rcases hQ with ⟨rfl, _⟩ | ⟨_, rfl | rfl⟩
    · simp only [if_true] at a2 this
      have u1 : IntKind.i64.wrap (xr + dx) = xr + dx := wrap_i64_id (by omega) (by omega)
      rcases hQ' with ⟨rfl, _⟩ | ⟨_, rfl | rfl⟩ <;>
      simp (maxSteps := 1000000) (disch := first | omega | decide | assumption | simp [scal]) [o_fieldAddr fa_35_0 (by decide), loadA_eq ia_3, o_fieldAddr fa_35_1 (by decide), o_fieldAddr fa_35_2 (by decide), za_103, o_build za_103 pl_103, o_fieldAddr fa_35_3 (by decide), o_indexAddrS es_104, ze_104, o_buildSlice es_104 ze_104 (by decide) ba_104_4, lenA_sl lk_104, loadA_eq ia_103, sz_103, o_fieldAddr fa_103_2 (by decide), loadA_eq ia_24, o_fieldAddr fa_103_0 (by decide), o_fieldAddr fa_103_1 (by decide), ptrB, renB, a1, a2, e1', e1, addWr, ins, this]
    · simp only [List.cons_ne_nil, if_false, reduceCtorEq] at a2 this
      rcases hQ' with ⟨rfl, _⟩ | ⟨_, rfl | rfl⟩ <;>
      simp (maxSteps := 1000000) (disch := first | omega | decide | assumption | simp [scal]) [o_fieldAddr fa_35_0 (by decide), loadA_eq ia_3, o_fieldAddr fa_35_1 (by decide), o_fieldAddr fa_35_2 (by decide), za_103, o_build za_103 pl_103, o_fieldAddr fa_35_3 (by decide), o_indexAddrS es_104, ze_104, o_buildSlice es_104 ze_104 (by decide) ba_104_4, lenA_sl lk_104, loadA_eq ia_103, sz_103, o_fieldAddr fa_103_2 (by decide), loadA_eq ia_24, o_fieldAddr fa_103_0 (by decide), o_fieldAddr fa_103_1 (by decide), ptrB, renB, a1, a2, e1', e1, addWr, ins, this]
    · simp only [List.cons_ne_nil, if_false, reduceCtorEq] at a2 this
      rcases hQ' with ⟨rfl, _⟩ | ⟨_, rfl | rfl⟩ <;>
      simp (maxSteps := 1000000) (disch := first | omega | decide | assumption | simp [scal]) [o_fieldAddr fa_35_0 (by decide), loadA_eq ia_3, o_fieldAddr fa_35_1 (by decide), o_fieldAddr fa_35_2 (by decide), za_103, o_build za_103 pl_103, o_fieldAddr fa_35_3 (by decide), o_indexAddrS es_104, ze_104, o_buildSlice es_104 ze_104 (by decide) ba_104_4, lenA_sl lk_104, loadA_eq ia_103, sz_103, o_fieldAddr fa_103_2 (by decide), loadA_eq ia_24, o_fieldAddr fa_103_0 (by decide), o_fieldAddr fa_103_1 (by decide), ptrB, renB, a1, a2, e1', e1, addWr, ins, this]
end
end Go.Proofs.Ytgpcjdhlijompaa.oo
namespace Go.Proofs.Ytgpcjdhlijompaa.oo
open Go.GE
set_option linter.unusedVariables false
set_option linter.unusedSimpArgs false
set_option linter.unusedSectionVars false
set_option maxRecDepth 100000
set_option maxHeartbeats 4000000
attribute [local simp] runOps_nil runOps_cons runOpsF_nil runOpsF_cons fstS_some fstF_some opStep_eq want_none oStep_true oStep_false fin_pure fin_read fin_alloc fin_write storeB wrN cellV addWr o_move o_assign o_pick o_alloc o_box o_load o_store o_nilCheck o_bin o_un o_extract o_callV o_callB o_callI callV_f callV_y callV_fc o_makeFunc partsA Instr.fill builtin_len builtin_max2 bin_add bin_sub bin_mul bin_quo bin_rem bin_lss bin_leq bin_gtr bin_geq bin_eql bin_neq un_neg un_not bin_shr bin_shl wrap_u64_id opd opds optAll putO nbeq nblt constOk isC ops sub cl cr co bodyOf thenS_normal thenS_ret thenS_exit thenS_goto afterN_normal afterN_ret afterN_exit afterN_goto condS_true condS_false blockS_normal blockS_ret blockS_exit blockS_goto headS normS normK_eq fixS_nil fixS_cons fix1 fixV emptyB keepO_nil keepO_cons roundC_normal roundC_exit roundC_ret roundC_goto sweep_eq sweepD rnm pickR pickW rootsB ptrT renT ptrFn renFn ptrB_flat ptrB_non renB_flat renB_non plainS_some drawS_some fpsOk disj unord range' dropTo enumT undef wrap_i64_id Value.cells mkCells ptrTo scal cellsAt rdN endS_ret resultsA Option.bind_some tupV finish reachN dep ptrL_eq ptrL renL_eq renL ptrV_bool ptrV_int ptrV_string ptrV_nilFunc ptrV_nilIface ptrV_nilPtr ptrV_ptr ptrV_nilSl ptrV_sl ptrV_iface ptrV_agg ptrV_tuple ptrV_func renV_bool renV_int renV_string renV_nilFunc renV_nilIface renV_nilPtr renV_ptr renV_nilSl renV_sl renV_iface renV_agg renV_tuple renV_func gotoS_goto gotoS_normal gotoS_exit gotoS_ret skip_seq sliceE bnd bndHi intOf optOpd keepT_nil keepT_cons keepC_t keepC_f lk_nil lk_cons lkC_t lkC_f has_nil has_cons hasC_t hasC_f rep_nil rep_cons repC_t repC_f put_eq putC_t putC_f mem_nil mem_cons memC_t memC_f idx_nil idx_cons idxC_t idxC_f reach_nil reach_cons reachC_t reachC_f
attribute [local simp] n56_1s n56_4s n56_8s n56_11s n56_12s n56_10s n56_16s n56_18s n56_22s n56_25s n56_26s n56_24s n56_31s n56_33s n56_34s n56_32s n56_30s n56_35s n56_29s n56_28s n56_36s n56_27s n56_23s n56_21s n56_20s n56_20g n56_19s n56_17s n56_15s n56_14s n56_37s n56_13s n56_9s n56_7s n56_6s n56_6g n56_5s n56_3s n56_38s n56_2s n56_0s Try.f56
section
variable (w hh o : Int) (off n c : Nat) (X Y : Int) (W H : Nat) (cs : List Value) (own : Bool)
theorem l56_0 (px py v : Nat → Int) (p : Int × Int) (hw : 0 ≤ w ∧ w ≤ 9) (hn : W ≤ 9) (hx : ∀ r, px (r + 1) = px r + (1)) (hy : ∀ r, py (r + 1) = py r + (0)) (hp : okP 500000 p)
    (hv : ∀ r, r < W → small (px r) ∧ small (py r) ∧ isN (v r) ∧ ∃ j : Nat, py r * w + px r = j ∧ j < n ∧ cs[off + j]? = some (iv (v r))) (Q : List Nat) (hQ : okW Q p) : ∃ Q', okW Q' (runF p v W) ∧
    lpB Try.prog LL ⟨56, 57, 6, none⟩ n56_6 n56_7 ⟨[(0, yd), (2, pp 4), (4, iv (px 0)), (5, iv (py 0)), (24, .slice (some ⟨6, 0, none⟩) 4 4), (25, iv 4), (26, iv 0)], H56 w hh o off n c X Y W H cs own p [sides W H], Q⟩ =
    lpB Try.prog LL ⟨56, 57, 6, none⟩ n56_6 n56_7 ⟨[(0, yd), (2, pp 4), (4, iv (px W)), (5, iv (py W)), (24, .slice (some ⟨6, 0, none⟩) 4 4), (25, iv 4), (26, iv 1)], H56 w hh o off n c X Y W H cs own (runF p v W) [sides W H], Q'⟩ := by
  have hpr : ∀ r, r ≤ W → okP 1000000 (runF p v r) := fun r hr => (runF_ok hp (by omega) r fun i hi => (hv i (by omega)).2.2.1).mono (by omega)
  obtain ⟨Q', hQ', hl⟩ := l56i w hh o off n c X Y W H cs own 0 (1) (0) W px py v p hw (by omega) hx hy hv hpr (by omega) (by omega) W 0 (by omega) Q hQ
  refine ⟨Q', hQ', ?_⟩
  rw [lpB_eq]
  have h0 : runF p v 0 = p := rfl
  rw [h0] at hl
  generalize runF p v W = zn at *
  simp only [H56, sides, lp44, Int.natCast_zero] at hl ⊢
  generalize px W = xn at *
  generalize py W = yn at *
  generalize px 0 = x0 at *
  generalize py 0 = y0 at *
  rcases hQ with ⟨rfl, _⟩ | ⟨_, rfl | rfl⟩ <;> rcases hQ' with ⟨rfl, _⟩ | ⟨_, rfl | rfl⟩ <;>
  simp (maxSteps := 1000000) (disch := first | omega | decide | assumption | simp [scal]) [o_fieldAddr fa_35_0 (by decide), loadA_eq ia_3, o_fieldAddr fa_35_1 (by decide), o_fieldAddr fa_35_2 (by decide), za_103, o_build za_103 pl_103, o_fieldAddr fa_35_3 (by decide), o_indexAddrS es_104, ze_104, o_buildSlice es_104 ze_104 (by decide) ba_104_4, lenA_sl lk_104, loadA_eq ia_103, sz_103, o_fieldAddr fa_103_2 (by decide), loadA_eq ia_24, o_fieldAddr fa_103_0 (by decide), o_fieldAddr fa_103_1 (by decide), ptrB, renB, hl]
theorem l56_1 (px py v : Nat → Int) (p : Int × Int) (hw : 0 ≤ w ∧ w ≤ 9) (hn : H ≤ 9) (hx : ∀ r, px (r + 1) = px r + (0)) (hy : ∀ r, py (r + 1) = py r + (1)) (hp : okP 500000 p)
    (hv : ∀ r, r < H → small (px r) ∧ small (py r) ∧ isN (v r) ∧ ∃ j : Nat, py r * w + px r = j ∧ j < n ∧ cs[off + j]? = some (iv (v r))) (Q : List Nat) (hQ : okW Q p) : ∃ Q', okW Q' (runF p v H) ∧
    lpB Try.prog LL ⟨56, 57, 6, none⟩ n56_6 n56_7 ⟨[(0, yd), (2, pp 4), (4, iv (px 0)), (5, iv (py 0)), (24, .slice (some ⟨6, 0, none⟩) 4 4), (25, iv 4), (26, iv 1)], H56 w hh o off n c X Y W H cs own p [sides W H], Q⟩ =
    lpB Try.prog LL ⟨56, 57, 6, none⟩ n56_6 n56_7 ⟨[(0, yd), (2, pp 4), (4, iv (px H)), (5, iv (py H)), (24, .slice (some ⟨6, 0, none⟩) 4 4), (25, iv 4), (26, iv 2)], H56 w hh o off n c X Y W H cs own (runF p v H) [sides W H], Q'⟩ := by
  have hpr : ∀ r, r ≤ H → okP 1000000 (runF p v r) := fun r hr => (runF_ok hp (by omega) r fun i hi => (hv i (by omega)).2.2.1).mono (by omega)
  obtain ⟨Q', hQ', hl⟩ := l56i w hh o off n c X Y W H cs own 1 (0) (1) H px py v p hw (by omega) hx hy hv hpr (by omega) (by omega) H 0 (by omega) Q hQ
  refine ⟨Q', hQ', ?_⟩
  rw [lpB_eq]
  have h0 : runF p v 0 = p := rfl
  rw [h0] at hl
  generalize runF p v H = zn at *
  simp only [H56, sides, lp44, Int.natCast_zero] at hl ⊢
  generalize px H = xn at *
  generalize py H = yn at *
  generalize px 0 = x0 at *
  generalize py 0 = y0 at *
  rcases hQ with ⟨rfl, _⟩ | ⟨_, rfl | rfl⟩ <;> rcases hQ' with ⟨rfl, _⟩ | ⟨_, rfl | rfl⟩ <;>
  simp (maxSteps := 1000000) (disch := first | omega | decide | assumption | simp [scal]) [o_fieldAddr fa_35_0 (by decide), loadA_eq ia_3, o_fieldAddr fa_35_1 (by decide), o_fieldAddr fa_35_2 (by decide), za_103, o_build za_103 pl_103, o_fieldAddr fa_35_3 (by decide), o_indexAddrS es_104, ze_104, o_buildSlice es_104 ze_104 (by decide) ba_104_4, lenA_sl lk_104, loadA_eq ia_103, sz_103, o_fieldAddr fa_103_2 (by decide), loadA_eq ia_24, o_fieldAddr fa_103_0 (by decide), o_fieldAddr fa_103_1 (by decide), ptrB, renB, hl]
theorem l56_2 (px py v : Nat → Int) (p : Int × Int) (hw : 0 ≤ w ∧ w ≤ 9) (hn : W ≤ 9) (hx : ∀ r, px (r + 1) = px r + (-1)) (hy : ∀ r, py (r + 1) = py r + (0)) (hp : okP 500000 p)
    (hv : ∀ r, r < W → small (px r) ∧ small (py r) ∧ isN (v r) ∧ ∃ j : Nat, py r * w + px r = j ∧ j < n ∧ cs[off + j]? = some (iv (v r))) (Q : List Nat) (hQ : okW Q p) : ∃ Q', okW Q' (runF p v W) ∧
    lpB Try.prog LL ⟨56, 57, 6, none⟩ n56_6 n56_7 ⟨[(0, yd), (2, pp 4), (4, iv (px 0)), (5, iv (py 0)), (24, .slice (some ⟨6, 0, none⟩) 4 4), (25, iv 4), (26, iv 2)], H56 w hh o off n c X Y W H cs own p [sides W H], Q⟩ =
    lpB Try.prog LL ⟨56, 57, 6, none⟩ n56_6 n56_7 ⟨[(0, yd), (2, pp 4), (4, iv (px W)), (5, iv (py W)), (24, .slice (some ⟨6, 0, none⟩) 4 4), (25, iv 4), (26, iv 3)], H56 w hh o off n c X Y W H cs own (runF p v W) [sides W H], Q'⟩ := by
  have hpr : ∀ r, r ≤ W → okP 1000000 (runF p v r) := fun r hr => (runF_ok hp (by omega) r fun i hi => (hv i (by omega)).2.2.1).mono (by omega)
  obtain ⟨Q', hQ', hl⟩ := l56i w hh o off n c X Y W H cs own 2 (-1) (0) W px py v p hw (by omega) hx hy hv hpr (by omega) (by omega) W 0 (by omega) Q hQ
  refine ⟨Q', hQ', ?_⟩
  rw [lpB_eq]
  have h0 : runF p v 0 = p := rfl
  rw [h0] at hl
  generalize runF p v W = zn at *
  simp only [H56, sides, lp44, Int.natCast_zero] at hl ⊢
  generalize px W = xn at *
  generalize py W = yn at *
  generalize px 0 = x0 at *
  generalize py 0 = y0 at *
  rcases hQ with ⟨rfl, _⟩ | ⟨_, rfl | rfl⟩ <;> rcases hQ' with ⟨rfl, _⟩ | ⟨_, rfl | rfl⟩ <;>
  simp (maxSteps := 1000000) (disch := first | omega | decide | assumption | simp [scal]) [o_fieldAddr fa_35_0 (by decide), loadA_eq ia_3, o_fieldAddr fa_35_1 (by decide), o_fieldAddr fa_35_2 (by decide), za_103, o_build za_103 pl_103, o_fieldAddr fa_35_3 (by decide), o_indexAddrS es_104, ze_104, o_buildSlice es_104 ze_104 (by decide) ba_104_4, lenA_sl lk_104, loadA_eq ia_103, sz_103, o_fieldAddr fa_103_2 (by decide), loadA_eq ia_24, o_fieldAddr fa_103_0 (by decide), o_fieldAddr fa_103_1 (by decide), ptrB, renB, hl]
theorem l56_3 (px py v : Nat → Int) (p : Int × Int) (hw : 0 ≤ w ∧ w ≤ 9) (hn : H ≤ 9) (hx : ∀ r, px (r + 1) = px r + (0)) (hy : ∀ r, py (r + 1) = py r + (-1)) (hp : okP 500000 p)
    (hv : ∀ r, r < H → small (px r) ∧ small (py r) ∧ isN (v r) ∧ ∃ j : Nat, py r * w + px r = j ∧ j < n ∧ cs[off + j]? = some (iv (v r))) (Q : List Nat) (hQ : okW Q p) : ∃ Q', okW Q' (runF p v H) ∧
    lpB Try.prog LL ⟨56, 57, 6, none⟩ n56_6 n56_7 ⟨[(0, yd), (2, pp 4), (4, iv (px 0)), (5, iv (py 0)), (24, .slice (some ⟨6, 0, none⟩) 4 4), (25, iv 4), (26, iv 3)], H56 w hh o off n c X Y W H cs own p [sides W H], Q⟩ =
    lpB Try.prog LL ⟨56, 57, 6, none⟩ n56_6 n56_7 ⟨[(0, yd), (2, pp 4), (4, iv (px H)), (5, iv (py H)), (24, .slice (some ⟨6, 0, none⟩) 4 4), (25, iv 4), (26, iv 4)], H56 w hh o off n c X Y W H cs own (runF p v H) [sides W H], Q'⟩ := by
  have hpr : ∀ r, r ≤ H → okP 1000000 (runF p v r) := fun r hr => (runF_ok hp (by omega) r fun i hi => (hv i (by omega)).2.2.1).mono (by omega)
  obtain ⟨Q', hQ', hl⟩ := l56i w hh o off n c X Y W H cs own 3 (0) (-1) H px py v p hw (by omega) hx hy hv hpr (by omega) (by omega) H 0 (by omega) Q hQ
  refine ⟨Q', hQ', ?_⟩
  rw [lpB_eq]
  have h0 : runF p v 0 = p := rfl
  rw [h0] at hl
  generalize runF p v H = zn at *
  simp only [H56, sides, lp44, Int.natCast_zero] at hl ⊢
  generalize px H = xn at *
  generalize py H = yn at *
  generalize px 0 = x0 at *
  generalize py 0 = y0 at *
  rcases hQ with ⟨rfl, _⟩ | ⟨_, rfl | rfl⟩ <;> rcases hQ' with ⟨rfl, _⟩ | ⟨_, rfl | rfl⟩ <;>
  simp (maxSteps := 1000000) (disch := first | omega | decide | assumption | simp [scal]) [o_fieldAddr fa_35_0 (by decide), loadA_eq ia_3, o_fieldAddr fa_35_1 (by decide), o_fieldAddr fa_35_2 (by decide), za_103, o_build za_103 pl_103, o_fieldAddr fa_35_3 (by decide), o_indexAddrS es_104, ze_104, o_buildSlice es_104 ze_104 (by decide) ba_104_4, lenA_sl lk_104, loadA_eq ia_103, sz_103, o_fieldAddr fa_103_2 (by decide), loadA_eq ia_24, o_fieldAddr fa_103_0 (by decide), o_fieldAddr fa_103_1 (by decide), ptrB, renB, hl]
/-- behind the last side -/
theorem l56_4 (x y : Int) (p : Int × Int) (Q : List Nat) (hQ : okW Q p) :
    lpB Try.prog LL ⟨56, 57, 6, none⟩ n56_6 n56_7 ⟨[(0, yd), (2, pp 4), (4, iv x), (5, iv y), (24, .slice (some ⟨6, 0, none⟩) 4 4), (25, iv 4), (26, iv 4)], H56 w hh o off n c X Y W H cs own p [sides W H], Q⟩ =
    some (.exit 0, ⟨[(0, yd), (2, pp 4), (4, iv x), (5, iv y)], H56 w hh o off n c X Y W H cs own p [], Q⟩) := by
  rw [lpB_eq]
  simp only [H56, sides, lp44]
  rcases hQ with ⟨rfl, _⟩ | ⟨_, rfl | rfl⟩ <;>
  simp (maxSteps := 1000000) (disch := first | omega | decide | assumption | simp [scal]) [o_fieldAddr fa_35_0 (by decide), loadA_eq ia_3, o_fieldAddr fa_35_1 (by decide), o_fieldAddr fa_35_2 (by decide), za_103, o_build za_103 pl_103, o_fieldAddr fa_35_3 (by decide), o_indexAddrS es_104, ze_104, o_buildSlice es_104 ze_104 (by decide) ba_104_4, lenA_sl lk_104, loadA_eq ia_103, sz_103, o_fieldAddr fa_103_2 (by decide), loadA_eq ia_24, o_fieldAddr fa_103_0 (by decide), o_fieldAddr fa_103_1 (by decide), ptrB, renB]
end
end Go.Proofs.Ytgpcjdhlijompaa.oo
namespace Go.Proofs.Ytgpcjdhlijompaa.oo
open Go.GE
set_option linter.unusedVariables false
set_option linter.unusedSimpArgs false
set_option linter.unusedSectionVars false
set_option maxRecDepth 100000
set_option maxHeartbeats 4000000
attribute [local simp] runOps_nil runOps_cons runOpsF_nil runOpsF_cons fstS_some fstF_some opStep_eq want_none oStep_true oStep_false fin_pure fin_read fin_alloc fin_write storeB wrN cellV addWr o_move o_assign o_pick o_alloc o_box o_load o_store o_nilCheck o_bin o_un o_extract o_callV o_callB o_callI callV_f callV_y callV_fc o_makeFunc partsA Instr.fill builtin_len builtin_max2 bin_add bin_sub bin_mul bin_quo bin_rem bin_lss bin_leq bin_gtr bin_geq bin_eql bin_neq un_neg un_not bin_shr bin_shl wrap_u64_id opd opds optAll putO nbeq nblt constOk isC ops sub cl cr co bodyOf thenS_normal thenS_ret thenS_exit thenS_goto afterN_normal afterN_ret afterN_exit afterN_goto condS_true condS_false blockS_normal blockS_ret blockS_exit blockS_goto headS normS normK_eq fixS_nil fixS_cons fix1 fixV emptyB keepO_nil keepO_cons roundC_normal roundC_exit roundC_ret roundC_goto sweep_eq sweepD rnm pickR pickW rootsB ptrT renT ptrFn renFn ptrB_flat ptrB_non renB_flat renB_non plainS_some drawS_some fpsOk disj unord range' dropTo enumT undef wrap_i64_id Value.cells mkCells ptrTo scal cellsAt rdN endS_ret resultsA Option.bind_some tupV finish reachN dep ptrL_eq ptrL renL_eq renL ptrV_bool ptrV_int ptrV_string ptrV_nilFunc ptrV_nilIface ptrV_nilPtr ptrV_ptr ptrV_nilSl ptrV_sl ptrV_iface ptrV_agg ptrV_tuple ptrV_func renV_bool renV_int renV_string renV_nilFunc renV_nilIface renV_nilPtr renV_ptr renV_nilSl renV_sl renV_iface renV_agg renV_tuple renV_func gotoS_goto gotoS_normal gotoS_exit gotoS_ret skip_seq sliceE bnd bndHi intOf optOpd keepT_nil keepT_cons keepC_t keepC_f lk_nil lk_cons lkC_t lkC_f has_nil has_cons hasC_t hasC_f rep_nil rep_cons repC_t repC_f put_eq putC_t putC_f mem_nil mem_cons memC_t memC_f idx_nil idx_cons idxC_t idxC_f reach_nil reach_cons reachC_t reachC_f
attribute [local simp] n56_1s n56_4s n56_8s n56_11s n56_12s n56_10s n56_16s n56_18s n56_22s n56_25s n56_26s n56_24s n56_31s n56_33s n56_34s n56_32s n56_30s n56_35s n56_29s n56_28s n56_36s n56_27s n56_23s n56_21s n56_20s n56_20g n56_19s n56_17s n56_15s n56_14s n56_37s n56_13s n56_9s n56_7s n56_6s n56_6g n56_5s n56_3s n56_38s n56_2s n56_0s Try.f56 n53_1s n53_3s n53_4s n53_2s n53_0s Try.f53 n44_1s n44_3s n44_6s n44_9s n44_13s n44_15s n44_16s n44_14s n44_12s n44_17s n44_11s n44_10s n44_7s n44_5s n44_19s n44_20s n44_18s n44_4s n44_2s n44_0s Try.f44
theorem endS_normal {rs : List ResultVar} {base : Nat} {st : St} : endS Try.prog rs base (some (.normal, st)) = (match resultsA Try.prog rs st with
    | some vs => finish base (tupV vs) st.h st.wr
    | none => none) := rfl
def ringP (g : Nat → Nat → Int) (X Y W H : Nat) : Int × Int :=
  stp (runF (runF (runF (runF (-1, 0) (fun r => g (X + r) Y) W) (fun r => g (X + W) (Y + r)) H) (fun r => g (X + W - r) (Y + H)) W) (fun r => g X (Y + H - r)) H) (g X Y)
section
variable {Wf HH : Nat} {o : Int} {off n : Nat} (c : Nat) {cs : List Value} (own : Bool) {nd : Nat → Int} {X Y W H : Nat}
theorem Fld.pt (F : Fld Wf HH o off n cs nd) (x y : Int) (hx : 0 ≤ x ∧ x < Wf) (hy : 0 ≤ y ∧ y < HH) {v : Int} (hv : v = gr Wf nd x.toNat y.toNat) : small x ∧ small y ∧ isN v ∧ ∃ j : Nat, y * Wf + x = j ∧ j < n ∧ cs[off + j]? = some (iv v) := by
  have hw := F.hw; have hh := F.hh
  have := F.at (x := x.toNat) (y := y.toNat) (by omega) (by omega)
  rw [← hv] at this
  have e1 : ((x.toNat : Nat) : Int) = x := by omega
  have e2 : ((y.toNat : Nat) : Int) = y := by omega
  rw [e1, e2] at this
  exact ⟨by unfold small; omega, by unfold small; omega, this⟩
theorem grI {x y : Nat} {a b : Int} (h1 : a = x) (h2 : b = y) : gr Wf nd x y = gr Wf nd a.toNat b.toNat := by
  subst h1; subst h2; rfl
theorem loop_all (F : Fld Wf HH o off n cs nd) (hW : 1 ≤ W) (hH : 1 ≤ H) (hX : X + W + 1 ≤ Wf) (hY : Y + H + 1 ≤ HH) :
    ∃ p Q, stp p (gr Wf nd X Y) = ringP (gr Wf nd) X Y W H ∧ okP 60000 p ∧ (isN p.1 ∧ (Q = [0, 1] ∨ Q = [0, 1, 2])) ∧ lpB Try.prog LL ⟨56, 57, 6, none⟩ n56_6 n56_7 ⟨[(0, yd), (2, pp 4), (4, iv X), (5, iv Y), (24, .slice (some ⟨6, 0, none⟩) 4 4), (25, iv 4), (26, iv 0)], H56 Wf HH o off n c X Y W H cs own (-1, 0) [sides W H], []⟩ =
      some (.exit 0, ⟨[(0, yd), (2, pp 4), (4, iv X), (5, iv Y)], H56 Wf HH o off n c X Y W H cs own p [], Q⟩) := by
  have hw := F.hw; have hh := F.hh
  have q1 : ∀ r, r < W → isN (gr Wf nd (X + r) Y) := fun r hr => (F.at (by omega) (by omega)).1
  have q2 : ∀ r, r < H → isN (gr Wf nd (X + W) (Y + r)) := fun r hr => (F.at (by omega) (by omega)).1
  have q3 : ∀ r, r < W → isN (gr Wf nd (X + W - r) (Y + H)) := fun r hr => (F.at (by omega) (by omega)).1
  have q4 : ∀ r, r < H → isN (gr Wf nd X (Y + H - r)) := fun r hr => (F.at (by omega) (by omega)).1
  have o0 : okP 0 ((-1 : Int), (0 : Int)) := ⟨.inl rfl, by decide, by decide⟩
  have o1 := (runF_ok o0 (by omega) W q1).mono (C := 15000) (by omega)
  have o2 := (runF_ok o1 (by omega) H q2).mono (C := 30000) (by omega)
  have o3 := (runF_ok o2 (by omega) W q3).mono (C := 45000) (by omega)
  have o4 := (runF_ok o3 (by omega) H q4).mono (C := 60000) (by omega)
  have hwI : (0 : Int) ≤ Wf ∧ (Wf : Int) ≤ 9 := by omega
  obtain ⟨Q1, u1, t1⟩ := l56_0 Wf HH o off n c X Y W H cs own (fun r => (X : Int) + r) (fun _ => Y) (fun r => gr Wf nd (X + r) Y) (-1, 0) hwI (by omega) (fun r => by simp only [cast1]; omega) (fun r => by omega) (o0.mono (by omega))
    (fun r hr => F.pt _ _ (by omega) (by omega) (grI (by omega) (by omega))) [] (.inl ⟨rfl, rfl⟩)
  obtain ⟨Q2, u2, t2⟩ := l56_1 Wf HH o off n c X Y W H cs own (fun _ => (X : Int) + (W : Int)) (fun r => Y + r) (fun r => gr Wf nd (X + W) (Y + r)) _ hwI (by omega) (fun r => by omega) (fun r => by simp only [cast1]; omega) (o1.mono (by omega))
    (fun r hr => F.pt _ _ (by omega) (by omega) (grI (by omega) (by omega))) Q1 u1
  obtain ⟨Q3, u3, t3⟩ := l56_2 Wf HH o off n c X Y W H cs own (fun r => (X : Int) + (W : Int) - r) (fun _ => Y + (H : Int)) (fun r => gr Wf nd (X + W - r) (Y + H)) _ hwI (by omega) (fun r => by simp only [cast1]; omega) (fun r => by omega) (o2.mono (by omega))
    (fun r hr => F.pt _ _ (by omega) (by omega) (grI (by omega) (by omega))) Q2 u2
  obtain ⟨Q4, u4, t4⟩ := l56_3 Wf HH o off n c X Y W H cs own (fun _ => (X : Int)) (fun r => (Y : Int) + (H : Int) - r) (fun r => gr Wf nd X (Y + H - r)) _ hwI (by omega) (fun r => by omega) (fun r => by simp only [cast1]; omega) (o3.mono (by omega))
    (fun r hr => F.pt _ _ (by omega) (by omega) (grI (by omega) (by omega))) Q3 u3
  have t5 := l56_4 Wf HH o off n c X Y W H cs own (X : Int) (Y : Int) _ Q4 u4
  obtain ⟨H', rfl⟩ : ∃ k, H = k + 1 := ⟨H - 1, by omega⟩
  have n4 : isN (runF (runF (runF (runF (-1, 0) (fun r => gr Wf nd (X + r) Y) W) (fun r => gr Wf nd (X + W) (Y + r)) (H' + 1)) (fun r => gr Wf nd (X + W - r) (Y + (H' + 1))) W) (fun r => gr Wf nd X (Y + (H' + 1) - r)) (H' + 1)).1 := by
    show isN (gr Wf nd X (Y + (H' + 1) - H'))
    exact q4 _ (by omega)
  refine ⟨_, Q4, rfl, o4, ⟨n4, ?_⟩, ?_⟩
  · rcases u4 with ⟨_, h⟩ | ⟨_, h⟩
    · have := n4.1; omega
    · exact h
  have e0 : (X : Int) + ((0 : Nat) : Int) = X := by omega
  have e1 : (Y : Int) + ((0 : Nat) : Int) = Y := by omega
  have e2 : (X : Int) + (W : Int) - ((0 : Nat) : Int) = X + (W : Int) := by omega
  have e3 : (Y : Int) + ((H' + 1 : Nat) : Int) - ((0 : Nat) : Int) = Y + ((H' + 1 : Nat) : Int) := by omega
  have e4 : (X : Int) + (W : Int) - (W : Int) = X := by omega
  have e5 : (Y : Int) + ((H' + 1 : Nat) : Int) - ((H' + 1 : Nat) : Int) = Y := by omega
  simp only [e0, e1, e2, e3, e4, e5] at t1 t2 t3 t4
  rw [t1, t2, t3, t4, t5]
theorem c56 (F : Fld Wf HH o off n cs nd) (hW : 1 ≤ W) (hH : 1 ≤ H) (hX : X + W + 1 ≤ Wf) (hY : Y + H + 1 ≤ HH) :
    LL.run 56 [yd, pp 3, pp 4] [.loop (lp44 1 2), c1 (-1), c1 0, bb X Y W H, fb Wf HH o 5 off n c, .cells cs 1 true own] =
      some ⟨.tuple #[], [], [(0, .loop (lp44 1 2)), (1, c1 (gr Wf nd X Y)), (2, c1 (ringP (gr Wf nd) X Y W H).2)]⟩ := by
  have hw := F.hw; have hh := F.hh
  refine go (by decide) ?_
  rw [run56 _ _ _ (by simp)]
  obtain ⟨p, Q, hp, po, ⟨pn, hQ⟩, hl⟩ := loop_all c own F hW hH hX hY
  obtain ⟨x1, x2, x3, j, x4, x5, x6⟩ := F.pt (X : Int) (Y : Int) (v := gr Wf nd X Y) (by omega) (by omega) rfl
  have a1 := fun rest : List Blk => k41 Wf HH o 5 off n c X Y j (h := .loop (lp44 1 2) :: c1 p.1 :: c1 p.2 :: bb X Y W H :: fb Wf HH o 5 off n c :: .cells cs 1 true own :: rest) rfl x1 x2 (by omega) (by omega) x4 x5 x6
  have a2 := fun rest : List Blk => y56 p.1 p.2 (gr Wf nd X Y) rest po.1 x3 (by have := po.2; omega)
  have hp' : (stp (p.1, p.2) (gr Wf nd X Y)).2 = (ringP (gr Wf nd) X Y W H).2 := by rw [← hp]
  have hy : yw p.1 = [0, 2, 1] := by unfold yw; rw [if_neg (by have := pn.1; omega)]
  rw [hp', hy] at a2
  simp only [H56, sides, lp44] at hl a1 a2 ⊢
  rcases hQ with rfl | rfl <;>
  simp (maxSteps := 1000000) (disch := first | omega | decide | assumption | simp [scal]) [o_fieldAddr fa_35_0 (by decide), loadA_eq ia_3, o_fieldAddr fa_35_1 (by decide), o_fieldAddr fa_35_2 (by decide), za_103, o_build za_103 pl_103, o_fieldAddr fa_35_3 (by decide), o_indexAddrS es_104, ze_104, o_buildSlice es_104 ze_104 (by decide) ba_104_4, lenA_sl lk_104, loadA_eq ia_103, sz_103, o_fieldAddr fa_103_2 (by decide), loadA_eq ia_24, o_fieldAddr fa_103_0 (by decide), o_fieldAddr fa_103_1 (by decide), ptrB, renB, hl, a1, a2, addWr, ins, endS_normal]
theorem c53 (w hh o : Int) (off n c : Nat) (X Y W H : Int) (cs : List Value) (own : Bool) :
    LL.run 53 [fv w hh o 0 off n c, bv X Y W H] [.cells cs 1 true own] = some ⟨.func (.func 56) #[] #[pp 1, pp 2], [bb X Y W H, fb w hh o 0 off n c], []⟩ := by
  refine go (by decide) ?_
  rw [run53 _ _ _ (by simp)]
  simp (maxSteps := 1000000) (disch := first | omega | decide | assumption | simp [scal])
theorem ring_ok (F : Fld Wf HH o off n cs nd) (hW : 1 ≤ W) (hH : 1 ≤ H) (hX : X + W + 1 ≤ Wf) (hY : Y + H + 1 ≤ HH) : okP 61800 (ringP (gr Wf nd) X Y W H) := by
  obtain ⟨p, Q, hp, po, _⟩ := loop_all 0 true F hW hH hX hY
  rw [← hp]
  have hw := F.hw; have hh := F.hh
  exact (stp_ok po (F.at (by omega) (by omega)).1 (by omega)).mono (by omega)
theorem wrap_div {R : Int} (h : -1000000 ≤ R ∧ R ≤ 1000000) : IntKind.i64.wrap (R.tdiv 3600) = R.tdiv 3600 := by
  rcases Int.le_total 0 R with h0 | h0
  · rw [Int.tdiv_eq_ediv_of_nonneg h0]
    exact wrap_i64_id (by omega) (by omega)
  · have e : R.tdiv 3600 = -((-R).tdiv 3600) := by rw [Int.neg_tdiv, Int.neg_neg]
    rw [e, Int.tdiv_eq_ediv_of_nonneg (by omega)]
    exact wrap_i64_id (by omega) (by omega)
theorem c44 (F : Fld Wf HH o off n cs nd) (hW : 1 ≤ W) (hH : 1 ≤ H) (hX : X + W + 1 ≤ Wf) (hY : Y + H + 1 ≤ HH) :
    LL.run 44 [fv Wf HH o 0 off n c, bv X Y W H] [.cells cs 1 true own] = some ⟨iv ((ringP (gr Wf nd) X Y W H).2.tdiv 3600), [], []⟩ := by
  refine go (by decide) ?_
  rw [run44 _ _ _ (by simp)]
  have h53 : callH LL 53 [fv Wf HH o 0 off n c, bv X Y W H] [.cells cs 1 true own, fb Wf HH o 0 off n c, bb X Y W H, c1 0, c1 (-1)] =
      some ⟨.func (.func 56) #[] #[pp 5, pp 6], [.cells cs 1 true own, fb Wf HH o 0 off n c, bb X Y W H, c1 0, c1 (-1), bb X Y W H, fb Wf HH o 0 off n c], [0], []⟩ := by
    have e := c53 Wf HH o off n c X Y W H cs own
    have hp : ([fv Wf HH o 0 off n c, bv X Y W H] : List Value).flatMap (ptrV dep) = [0] := ptr_fv2 rfl
    have hr : optAll (renV (idx [0]) dep) [fv Wf HH o 0 off n c, bv X Y W H] = some [fv Wf HH o 0 off n c, bv X Y W H] := ren_fv2 rfl
    refine callH_of (by intro _; first | trivial | rfl) ?_ (by simp)
    unfold callH0
    simp only [hp]
    rw [reach_one (blk := .cells cs 1 true own) rfl rfl (by decide)]
    simp only [hr]
    simp [optAll, renB, e, mergeB, renV_func, renFn, renL, renV_ptr, renL_eq, renV_int, renV_sl, dep, nblt, fb, bb]
  have h56 : callH LL 56 [.func (.yield 7) #[] #[], pp 5, pp 6] [.cells cs 1 true own, fb Wf HH o 0 off n c, bb X Y W H, c1 0, c1 (-1), bb X Y W H, fb Wf HH o 0 off n c, .loop (lp44 4 3)] =
      some ⟨.tuple #[], [.cells cs 1 true own, fb Wf HH o 0 off n c, bb X Y W H, c1 (ringP (gr Wf nd) X Y W H).2, c1 (gr Wf nd X Y), bb X Y W H, fb Wf HH o 0 off n c, .loop (lp44 4 3)], [7, 4, 3, 5, 6, 0], [7, 4, 3]⟩ := by
    have e := c56 c own F hW hH hX hY
    refine callH_of (by intro _; first | trivial | rfl) ?_ (by simp)
    simp only [lp44, c1, bb, fb] at e ⊢
    unfold callH0
    simp [ptrV_func, ptrV_ptr, ptrFn, ptrL, dep, reach, reachN, ptrB, ptrT, mem, nblt, nbeq, ptrL_eq, ptrV_int, ptrV_sl, optAll, renL_eq, renL, renV_func, renFn, renV_ptr, renV_int, renV_sl, idx, renB, renT, e, mergeB, renV_tuple]
  simp only [c1, bb, fb] at h53
  simp (maxSteps := 1000000) (disch := first | omega | decide | assumption | simp [scal]) [za_3, sz_3, loadA_eq ia_24, loadA_eq ia_35, loadA_eq ia_3, h53]
  rw [range_step n44_8e n44_8k rfl]
  simp only [lp44, c1, bb, fb] at h56
  simp (maxSteps := 1000000) (disch := first | omega | decide | assumption | simp [scal]) [za_3, sz_3, loadA_eq ia_24, loadA_eq ia_35, loadA_eq ia_3, h56]
  rw [rangeE_ready rfl rfl rfl]
  have hq := ring_ok F hW hH hX hY
  have hw := wrap_div (R := (ringP (gr Wf nd) X Y W H).2) (by have := hq.2; omega)
  simp (maxSteps := 1000000) (disch := first | omega | decide | assumption | simp [scal]) [za_3, sz_3, loadA_eq ia_24, loadA_eq ia_35, loadA_eq ia_3, hw, addWr]
end
end Go.Proofs.Ytgpcjdhlijompaa.oo
namespace Go.Proofs.Ytgpcjdhlijompaa.oo
open Go.GE
set_option linter.unusedVariables false
set_option linter.unusedSimpArgs false
set_option linter.unusedSectionVars false
set_option maxRecDepth 100000
set_option maxHeartbeats 4000000
attribute [local simp] runOps_nil runOps_cons runOpsF_nil runOpsF_cons fstS_some fstF_some opStep_eq want_none oStep_true oStep_false fin_pure fin_read fin_alloc fin_write storeB wrN cellV addWr o_move o_assign o_pick o_alloc o_box o_load o_store o_nilCheck o_bin o_un o_extract o_callV o_callB o_callI callV_f callV_y callV_fc o_makeFunc partsA Instr.fill builtin_len builtin_max2 bin_add bin_sub bin_mul bin_quo bin_rem bin_lss bin_leq bin_gtr bin_geq bin_eql bin_neq un_neg un_not bin_shr bin_shl wrap_u64_id opd opds optAll putO nbeq nblt constOk isC ops sub cl cr co bodyOf thenS_normal thenS_ret thenS_exit thenS_goto afterN_normal afterN_ret afterN_exit afterN_goto condS_true condS_false blockS_normal blockS_ret blockS_exit blockS_goto headS normS normK_eq fixS_nil fixS_cons fix1 fixV emptyB keepO_nil keepO_cons roundC_normal roundC_exit roundC_ret roundC_goto sweep_eq sweepD rnm pickR pickW rootsB ptrT renT ptrFn renFn ptrB_flat ptrB_non renB_flat renB_non plainS_some drawS_some fpsOk disj unord range' dropTo enumT undef wrap_i64_id Value.cells mkCells ptrTo scal cellsAt rdN endS_ret resultsA Option.bind_some tupV finish reachN dep ptrL_eq ptrL renL_eq renL ptrV_bool ptrV_int ptrV_string ptrV_nilFunc ptrV_nilIface ptrV_nilPtr ptrV_ptr ptrV_nilSl ptrV_sl ptrV_iface ptrV_agg ptrV_tuple ptrV_func renV_bool renV_int renV_string renV_nilFunc renV_nilIface renV_nilPtr renV_ptr renV_nilSl renV_sl renV_iface renV_agg renV_tuple renV_func gotoS_goto gotoS_normal gotoS_exit gotoS_ret skip_seq sliceE bnd bndHi intOf optOpd keepT_nil keepT_cons keepC_t keepC_f lk_nil lk_cons lkC_t lkC_f has_nil has_cons hasC_t hasC_f rep_nil rep_cons repC_t repC_f put_eq putC_t putC_f mem_nil mem_cons memC_t memC_f idx_nil idx_cons idxC_t idxC_f reach_nil reach_cons reachC_t reachC_f
attribute [local simp] n20_1s n20_3s n20_7s n20_10s n20_11s n20_9s n20_13s n20_16s n20_17s n20_15s n20_18s n20_14s n20_12s n20_8s n20_6s n20_5s n20_20s n20_21s n20_19s n20_4s n20_2s n20_0s Try.f20
theorem sure_comm {o a b : Int} : sureS o (turnS a b) ↔ sureS o (turnS b a) := by unfold sureS turnS; omega
theorem nat_mod_lt {y W x : Nat} (h : x < W) : (y * W + x) % W = x := by
  rw [Nat.mul_comm, Nat.mul_add_mod, Nat.mod_eq_of_lt h]
theorem nat_div_lt {y W x : Nat} (h : x < W) : (y * W + x) / W = y := by
  rw [Nat.mul_comm, Nat.mul_add_div (by omega), Nat.div_eq_of_lt h, Nat.add_zero]
def sum2 (a b : Nat → Int) (s : Int) : Nat → Int
  | 0 => s
  | r + 1 => sum2 a b s r + a r + b r
def bA (g : Nat → Nat → Int) (X Y r : Nat) : Int := turnS (g (X + r) Y) (g (X + r + 1) Y)
def bB (g : Nat → Nat → Int) (X Y r : Nat) : Int := turnS (g (X + r + 1) Y) (g (X + r) Y)
def lA (g : Nat → Nat → Int) (X Y r : Nat) : Int := turnS (g X (Y + r)) (g X (Y + r + 1))
def lB (g : Nat → Nat → Int) (X Y r : Nat) : Int := turnS (g X (Y + r + 1)) (g X (Y + r))
def ringR (g : Nat → Nat → Int) (X Y W H : Nat) : Int := sum2 (lA g (X + W) Y) (lB g X Y) (sum2 (bA g X Y) (bB g X (Y + H)) 0 W) H
def sumN (f : Nat → Int) : Nat → Int
  | 0 => 0
  | r + 1 => sumN f r + f r
theorem sumN_congr {f g : Nat → Int} : ∀ {n : Nat}, (∀ i, i < n → f i = g i) → sumN f n = sumN g n := by
  intro n
  induction n with
  | zero => intro _; rfl
  | succ n ih => intro h; simp only [sumN, ih fun i hi => h i (by omega), h n (by omega)]
theorem sumN_front (f : Nat → Int) (n : Nat) : sumN f (n + 1) = f 0 + sumN (fun i => f (i + 1)) n := by
  induction n with
  | zero => simp [sumN]
  | succ n ih => rw [sumN, ih, sumN]; omega
theorem sumN_rev (f : Nat → Int) (n : Nat) : sumN f n = sumN (fun i => f (n - 1 - i)) n := by
  induction n with
  | zero => rfl
  | succ n ih =>
    rw [sumN_front (fun i => f (n + 1 - 1 - i))]
    simp only [sumN]
    have : sumN (fun i => f (n + 1 - 1 - (i + 1))) n = sumN (fun i => f (n - 1 - i)) n := sumN_congr fun i hi => by congr 1; omega
    rw [this, ← ih]
    simp; omega
theorem sum2_eq (a b : Nat → Int) (s : Int) (r : Nat) : sum2 a b s r = s + sumN a r + sumN b r := by
  induction r with
  | zero => simp [sum2, sumN]
  | succ r ih => simp only [sum2, sumN, ih]; omega
theorem runF_val {p : Int × Int} {v : Nat → Int} (hp : 0 ≤ p.1) : ∀ r, (∀ i, i < r + 1 → 0 ≤ v i) → runF p v (r + 1) = (v r, p.2 + turnS p.1 (v 0) + sumN (fun i => turnS (v i) (v (i + 1))) r) := by
  intro r
  induction r with
  | zero =>
    intro _
    have : ¬ p.1 < 0 := by omega
    simp [runF, stp, sumN, this]
  | succ r ih =>
    intro hv
    rw [runF, ih fun i hi => hv i (by omega)]
    have : ¬ v r < 0 := by have := hv r (by omega); omega
    simp only [stp, this, if_false, sumN]
    congr 1
    omega
theorem runF_val0 {v : Nat → Int} : ∀ r, (∀ i, i < r + 1 → 0 ≤ v i) → runF (-1, 0) v (r + 1) = (v r, sumN (fun i => turnS (v i) (v (i + 1))) r) := by
  intro r
  induction r with
  | zero => intro _; simp [runF, stp, sumN]
  | succ r ih =>
    intro hv
    rw [runF, ih fun i hi => hv i (by omega)]
    have : ¬ v r < 0 := by have := hv r (by omega); omega
    simp only [stp, this, if_false, sumN]
theorem ring_eq {g : Nat → Nat → Int} {X Y W H : Nat} (hW : 1 ≤ W) (hH : 1 ≤ H) (hg : ∀ x y, x ≤ X + W → y ≤ Y + H → 0 ≤ g x y) : (ringP g X Y W H).2 = ringR g X Y W H := by
  obtain ⟨w, rfl⟩ : ∃ k, W = k + 1 := ⟨W - 1, by omega⟩
  obtain ⟨h, rfl⟩ : ∃ k, H = k + 1 := ⟨H - 1, by omega⟩
  have hg0 := hg X Y (by omega) (by omega)
  unfold ringP
  rw [runF_val0 w fun i hi => hg _ _ (by omega) (by omega)]
  rw [runF_val (hg _ _ (by omega) (by omega)) h fun i hi => hg _ _ (by omega) (by omega)]
  rw [runF_val (hg _ _ (by omega) (by omega)) w fun i hi => hg _ _ (by omega) (by omega)]
  rw [runF_val (hg _ _ (by omega) (by omega)) h fun i hi => hg _ _ (by omega) (by omega)]
  have hlast : ¬ g X (Y + (h + 1) - h) < 0 := by have := hg X (Y + (h + 1) - h) (by omega) (by omega); omega
  simp only [stp, hlast, if_false]
  have s1 : sumN (fun i => turnS (g (X + i) Y) (g (X + (i + 1)) Y)) w + turnS (g (X + w) Y) (g (X + (w + 1)) (Y + 0)) = sumN (bA g X Y) (w + 1) := rfl
  have s2 : sumN (fun i => turnS (g (X + (w + 1)) (Y + i)) (g (X + (w + 1)) (Y + (i + 1)))) h + turnS (g (X + (w + 1)) (Y + h)) (g (X + (w + 1) - 0) (Y + (h + 1))) = sumN (lA g (X + (w + 1)) Y) (h + 1) := rfl
  have s3 : sumN (fun i => turnS (g (X + (w + 1) - i) (Y + (h + 1))) (g (X + (w + 1) - (i + 1)) (Y + (h + 1)))) w + turnS (g (X + (w + 1) - w) (Y + (h + 1))) (g X (Y + (h + 1) - 0)) = sumN (bB g X (Y + (h + 1))) (w + 1) := by
    rw [sumN_rev (bB g X (Y + (h + 1))) (w + 1)]
    simp only [sumN]
    congr 1
    · refine sumN_congr fun i hi => ?_
      unfold bB
      congr 2 <;> omega
    · unfold bB
      congr 2 <;> omega
  have s4 : sumN (fun i => turnS (g X (Y + (h + 1) - i)) (g X (Y + (h + 1) - (i + 1)))) h + turnS (g X (Y + (h + 1) - h)) (g X Y) = sumN (lB g X Y) (h + 1) := by
    rw [sumN_rev (lB g X Y) (h + 1)]
    simp only [sumN]
    congr 1
    · refine sumN_congr fun i hi => ?_
      unfold lB
      congr 2 <;> omega
    · unfold lB
      congr 2 <;> omega
  unfold ringR
  rw [sum2_eq, sum2_eq, ← s1, ← s2, ← s3, ← s4]
  omega
def indx (g : Nat → Nat → Int) (X Y W H : Nat) : Int := (ringR g X Y W H).tdiv 3600
section
variable {Wf HH : Nat} {o : Int} {off n : Nat} (c : Nat) {cs : List Value} {own : Bool} {nd : Nat → Int} {X Y W H : Nat} {b : Nat} {h : List Blk}
theorem ring_same (F : Fld Wf HH o off n cs nd) (hW : 1 ≤ W) (hH : 1 ≤ H) (hX : X + W + 1 ≤ Wf) (hY : Y + H + 1 ≤ HH) : (ringP (gr Wf nd) X Y W H).2 = ringR (gr Wf nd) X Y W H :=
  ring_eq hW hH fun x y hx hy => (F.at (by omega) (by omega)).1.1
theorem k44 (F : Fld Wf HH o off n cs nd) (hb : h[b]? = some (.cells cs 1 true own)) (hW : 1 ≤ W) (hH : 1 ≤ H) (hX : X + W + 1 ≤ Wf) (hY : Y + H + 1 ≤ HH) : callH LL 44 [fv Wf HH o b off n c, bv X Y W H] h = some ⟨iv (indx (gr Wf nd) X Y W H), h, [b], []⟩ := by
  unfold indx
  rw [← ring_same F hW hH hX hY]
  exact callG hb rfl (c44 c own F hW hH hX hY) rfl
theorem k20 (F : Fld Wf HH o off n cs nd) (hg : ∀ i, i < n → ¬ badAt Wf o nd i) (hb : h[b]? = some (.cells cs 1 true own)) (hW : 1 ≤ W) (hH : 1 ≤ H) (hX : X + W + 1 ≤ Wf) (hY : Y + H + 1 ≤ HH) : callH LL 20 [fv Wf HH o b off n c, bv X Y W H] h = some ⟨.tuple #[iv (indx (gr Wf nd) X Y W H), iv 0], h, [b], []⟩ := by
  have hw := F.hw; have hh := F.hh
  refine callG hb rfl (go (by decide) ?_) rfl
  rw [run20 _ _ _ (by simp)]
  have a1 := fun bx : Blk => fun by' : Blk => k17 c own F hg (b := 0) (h := [.cells cs 1 true own, bx, by']) rfl
  have a2 := fun bx : Blk => fun by' : Blk => k43 (Wf : Int) HH o 0 off n c X Y W H (h := [.cells cs 1 true own, bx, by']) rfl (by omega) (by omega) (by unfold hasB; omega)
  have a3 := fun bx : Blk => fun by' : Blk => k44 c F (b := 0) (h := [.cells cs 1 true own, bx, by']) rfl hW hH hX hY
  simp (maxSteps := 1000000) (disch := first | omega | decide | assumption | simp [scal]) [loadA_eq ia_24, loadA_eq ia_35, a1, a2, a3]
end
theorem ringR_sum (g : Nat → Nat → Int) (X Y W H : Nat) : ringR g X Y W H = sumN (bA g X Y) W + sumN (bB g X (Y + H)) W + sumN (lA g (X + W) Y) H + sumN (lB g X Y) H := by
  unfold ringR
  rw [sum2_eq, sum2_eq]
  omega
structure Sure (g : Nat → Nat → Int) (Wf HH : Nat) : Prop where
  right : ∀ x y, x + 1 < Wf → y < HH → turnS (g x y) (g (x + 1) y) ≠ 1800
  up : ∀ x y, x < Wf → y + 1 < HH → turnS (g x y) (g x (y + 1)) ≠ 1800
theorem sure_ne {o a b : Int} (ho : 0 ≤ o) (h : sureS o (turnS a b)) : turnS a b ≠ 1800 := by unfold sureS at h; omega
theorem Fld.sure {Wf HH : Nat} {o : Int} {off n : Nat} {cs : List Value} {nd : Nat → Int} (F : Fld Wf HH o off n cs nd) (hg : ∀ i, i < n → ¬ badAt Wf o nd i) : Sure (gr Wf nd) Wf HH := by
  have hw := F.hw
  constructor
  · intro x y hx hy
    have hi : y * Wf + (x + 1) < n := by
      have := Nat.mul_le_mul_right Wf (show y + 1 ≤ HH by omega)
      rw [Nat.add_mul, Nat.one_mul] at this
      rw [F.hn]; omega
    have h := hg _ hi
    simp only [badAt, badL, badU, not_or, not_and, Classical.not_not] at h
    rw [nat_mod_lt hx] at h
    have := h.1 (by omega)
    rw [show y * Wf + (x + 1) - 1 = y * Wf + x by omega] at this
    rw [sure_comm] at this
    exact sure_ne F.ho.1 this
  · intro x y hx hy
    have hi : (y + 1) * Wf + x < n := by
      have := Nat.mul_le_mul_right Wf (show y + 1 + 1 ≤ HH by omega)
      rw [Nat.add_mul (y + 1), Nat.one_mul] at this
      rw [F.hn]; omega
    have h := hg _ hi
    simp only [badAt, badL, badU, not_or, not_and, Classical.not_not] at h
    rw [nat_div_lt hx] at h
    have := h.2 (by omega)
    have e : (y + 1) * Wf + x - Wf = y * Wf + x := by rw [Nat.add_mul, Nat.one_mul]; omega
    rw [e, sure_comm] at this
    exact sure_ne F.ho.1 this
end Go.Proofs.Ytgpcjdhlijompaa.oo
namespace Go.Proofs.Ytgpcjdhlijompaa.oo
open Go.GE
set_option linter.unusedVariables false
set_option linter.unusedSimpArgs false
set_option linter.unusedSectionVars false
set_option maxRecDepth 100000
set_option maxHeartbeats 4000000
attribute [local simp] runOps_nil runOps_cons runOpsF_nil runOpsF_cons fstS_some fstF_some opStep_eq want_none oStep_true oStep_false fin_pure fin_read fin_alloc fin_write storeB wrN cellV addWr o_move o_assign o_pick o_alloc o_box o_load o_store o_nilCheck o_bin o_un o_extract o_callV o_callB o_callI callV_f callV_y callV_fc o_makeFunc partsA Instr.fill builtin_len builtin_max2 bin_add bin_sub bin_mul bin_quo bin_rem bin_lss bin_leq bin_gtr bin_geq bin_eql bin_neq un_neg un_not bin_shr bin_shl wrap_u64_id opd opds optAll putO nbeq nblt constOk isC ops sub cl cr co bodyOf thenS_normal thenS_ret thenS_exit thenS_goto afterN_normal afterN_ret afterN_exit afterN_goto condS_true condS_false blockS_normal blockS_ret blockS_exit blockS_goto headS normS normK_eq fixS_nil fixS_cons fix1 fixV emptyB keepO_nil keepO_cons roundC_normal roundC_exit roundC_ret roundC_goto sweep_eq sweepD rnm pickR pickW rootsB ptrT renT ptrFn renFn ptrB_flat ptrB_non renB_flat renB_non plainS_some drawS_some fpsOk disj unord range' dropTo enumT undef wrap_i64_id Value.cells mkCells ptrTo scal cellsAt rdN endS_ret resultsA Option.bind_some tupV finish reachN dep ptrL_eq ptrL renL_eq renL ptrV_bool ptrV_int ptrV_string ptrV_nilFunc ptrV_nilIface ptrV_nilPtr ptrV_ptr ptrV_nilSl ptrV_sl ptrV_iface ptrV_agg ptrV_tuple ptrV_func renV_bool renV_int renV_string renV_nilFunc renV_nilIface renV_nilPtr renV_ptr renV_nilSl renV_sl renV_iface renV_agg renV_tuple renV_func gotoS_goto gotoS_normal gotoS_exit gotoS_ret skip_seq sliceE bnd bndHi intOf optOpd keepT_nil keepT_cons keepC_t keepC_f lk_nil lk_cons lkC_t lkC_f has_nil has_cons hasC_t hasC_f rep_nil rep_cons repC_t repC_f put_eq putC_t putC_f mem_nil mem_cons memC_t memC_f idx_nil idx_cons idxC_t idxC_f reach_nil reach_cons reachC_t reachC_f
attribute [local simp] n22_1s n22_4s n22_6s n22_9s n22_10s n22_8s n22_11s n22_7s n22_5s n22_3s n22_13s n22_15s n22_18s n22_22s n22_25s n22_26s n22_24s n22_30s n22_32s n22_36s n22_39s n22_40s n22_38s n22_44s n22_46s n22_48s n22_50s n22_52s n22_53s n22_51s n22_49s n22_47s n22_45s n22_43s n22_42s n22_54s n22_41s n22_37s n22_35s n22_34s n22_34g n22_33s n22_31s n22_29s n22_28s n22_55s n22_27s n22_23s n22_21s n22_20s n22_20g n22_19s n22_17s n22_57s n22_58s n22_56s n22_16s n22_14s n22_12s n22_2s n22_0s Try.f22
/-- the ore cells of a row, up to x; of all rows up to y -/
def rowL (g : Nat → Nat → Int) (y x : Nat) : List (Nat × Nat × Int) := ((List.range x).filter fun x => indx g x y 1 1 ≠ 0).map fun x => (x, y, indx g x y 1 1)
def allL (g : Nat → Nat → Int) (Wm y : Nat) : List (Nat × Nat × Int) := (List.range y).flatMap fun y => rowL g y Wm
def clG (q : Nat × Nat × Int) : List Value := [iv q.1, iv q.2.1, iv 1, iv 1]
def ixG (q : Nat × Nat × Int) : Value := iv q.2.2
def clB (L : List (Nat × Nat × Int)) : Blk := .cells (L.flatMap clG) 4 true true
def ixB (L : List (Nat × Nat × Int)) : Blk := .cells (L.map ixG) 1 true true
abbrev wh (b m : Nat) : Value := .slice (some ⟨b, 0, none⟩) m m
theorem rowL_succ {g : Nat → Nat → Int} {y x : Nat} : rowL g y (x + 1) = if indx g x y 1 1 ≠ 0 then rowL g y x ++ [(x, y, indx g x y 1 1)] else rowL g y x := by
  unfold rowL
  rw [List.range_succ, List.filter_append, List.filter_cons]
  by_cases h : indx g x y 1 1 = 0 <;> simp [h]
theorem rowL_len {g : Nat → Nat → Int} {y x : Nat} : (rowL g y x).length ≤ x := by
  unfold rowL
  rw [List.length_map]
  have := List.length_filter_le (fun x => decide (indx g x y 1 1 ≠ 0)) (List.range x)
  simpa using this
theorem allL_succ {g : Nat → Nat → Int} {Wm y : Nat} : allL g Wm (y + 1) = allL g Wm y ++ rowL g y Wm := by
  unfold allL
  rw [List.range_succ, List.flatMap_append]
  simp
theorem allL_len {g : Nat → Nat → Int} {Wm : Nat} : ∀ y, (allL g Wm y).length ≤ y * Wm := by
  intro y
  induction y with
  | zero => simp [allL]
  | succ y ih =>
    rw [allL_succ, List.length_append, Nat.add_mul, Nat.one_mul]
    have := rowL_len (g := g) (y := y) (x := Wm)
    omega
theorem clB_noId {L : List (Nat × Nat × Int)} : noIdB (clB L) := noIdB_flat
theorem ixB_noId {L : List (Nat × Nat × Int)} : noIdB (ixB L) := noIdB_flat
section
variable {W HH : Nat} {o : Int} {off n : Nat} (c : Nat) {cs : List Value} (own : Bool) {nd : Nat → Int} (F : Fld W HH o off n cs nd)
include F
theorem l22i (y : Nat) (hy : y + 1 < HH) (Lp : List (Nat × Nat × Int)) (hL : Lp.length ≤ 100) : ∀ q x : Nat, x + q = W - 1 →
    lpB Try.prog LL ⟨22, 49, 1, none⟩ n22_34 n22_35 ⟨[(8, iv y), (25, iv ((W : Int) - 1)), (26, iv x), (1, pp 1), (6, wh 2 (Lp ++ rowL (gr W nd) y x).length), (7, wh 3 (Lp ++ rowL (gr W nd) y x).length), (19, iv ((HH : Int) - 1)), (20, iv y)],
      [.cells cs 1 true own, fb W HH o 0 off n c, clB (Lp ++ rowL (gr W nd) y x), ixB (Lp ++ rowL (gr W nd) y x)], []⟩ =
      some (.exit 2, ⟨[(1, pp 1), (6, wh 2 (Lp ++ rowL (gr W nd) y (W - 1)).length), (7, wh 3 (Lp ++ rowL (gr W nd) y (W - 1)).length), (19, iv ((HH : Int) - 1)), (20, iv y)],
      [.cells cs 1 true own, fb W HH o 0 off n c, clB (Lp ++ rowL (gr W nd) y (W - 1)), ixB (Lp ++ rowL (gr W nd) y (W - 1))], []⟩) := by
  have hw := F.hw; have hh := F.hh
  intro q
  induction q with
  | zero =>
    intro x hx
    obtain rfl : x = W - 1 := by omega
    have e1 : (((W - 1 : Nat) : Int)) = (W : Int) - 1 := by omega
    rw [e1]
    generalize Lp ++ rowL (gr W nd) y (W - 1) = Q
    rw [lpB_eq]
    simp only [clB, ixB]
    simp (maxSteps := 1000000) (disch := first | omega | decide | assumption | simp [scal]) [loadA_eq ia_24, o_fieldAddr fa_24_1 (by decide), loadA_eq ia_3, o_fieldAddr fa_24_0 (by decide), za_35, o_build za_35 pl_35, sz_35, loadA_eq ia_35, o_indexAddrS es_39, ze_39, o_buildSlice es_39 ze_39 (by decide) ba_39_1, ap_39, builtin_append ni_39, o_indexAddrS es_22, ze_22, o_buildSlice es_22 ze_22 (by decide) ba_22_1, ap_22, builtin_append ni_22]
  | succ q ih =>
    intro x hx
    have e1 : (x : Int) < (W : Int) - 1 := by omega
    have this := ih (x + 1) (by omega)
    have a1 := fun b1 b2 b3 bx => k44 c F (b := 0) (X := x) (Y := y) (W := 1) (H := 1) (h := .cells cs 1 true own :: b1 :: b2 :: b3 :: bx) (own := own) rfl (by omega) (by omega) (by omega) (by omega)
    simp only [Int.natCast_one] at a1
    rw [rowL_succ] at this
    have rl := rowL_len (g := gr W nd) (y := y) (x := x)
    have e3 : (Lp ++ rowL (gr W nd) y x).length ≤ 200 := by rw [List.length_append]; omega
    generalize hv : indx (gr W nd) x y 1 1 = v at *
    generalize Lp ++ rowL (gr W nd) y (W - 1) = Q at *
    by_cases h0 : v = 0
    · rw [if_neg (by simp [h0])] at this
      generalize Lp ++ rowL (gr W nd) y x = P at *
      simp only [clB, ixB, cast1] at this ⊢
      generalize P.flatMap clG = P1 at *
      generalize P.map ixG = P2 at *
      subst h0
      rw [lpB_eq]
      simp (maxSteps := 1000000) (disch := first | omega | decide | assumption | simp [scal]) [loadA_eq ia_24, o_fieldAddr fa_24_1 (by decide), loadA_eq ia_3, o_fieldAddr fa_24_0 (by decide), za_35, o_build za_35 pl_35, sz_35, loadA_eq ia_35, o_indexAddrS es_39, ze_39, o_buildSlice es_39 ze_39 (by decide) ba_39_1, ap_39, builtin_append ni_39, o_indexAddrS es_22, ze_22, o_buildSlice es_22 ze_22 (by decide) ba_22_1, ap_22, builtin_append ni_22, e1, a1, this]
    · rw [if_pos h0, ← List.append_assoc] at this
      generalize Lp ++ rowL (gr W nd) y x = P at *
      have s1 := fun hp b c rd => app_list (h := hp) (b := b) (c := c) (k := 4) (by' := 32) (l := P.length) (cs := P.flatMap clG) (new := [iv x, iv y, iv 1, iv 1]) (rd := rd) (flat_len (k := 4) (fun _ => rfl)) (by omega) (by omega) rfl
      have s2 := fun hp b c rd => app_list (h := hp) (b := b) (c := c) (k := 1) (by' := 8) (l := P.length) (cs := P.map ixG) (new := [iv v]) (rd := rd) (by simp) (by omega) (by omega) rfl
      simp only [clB, ixB, cast1, List.flatMap_append, List.flatMap_cons, List.flatMap_nil, List.append_nil, List.map_append, List.map_cons, List.map_nil, List.length_append, List.length_cons, List.length_nil, Nat.zero_add] at this ⊢
      rw [show clG (x, y, v) = [iv x, iv y, iv 1, iv 1] from rfl, show ixG (x, y, v) = iv v from rfl] at this
      generalize P.flatMap clG = P1 at *
      generalize P.map ixG = P2 at *
      rw [lpB_eq]
      simp (maxSteps := 1000000) (disch := first | omega | decide | assumption | simp [scal]) [loadA_eq ia_24, o_fieldAddr fa_24_1 (by decide), loadA_eq ia_3, o_fieldAddr fa_24_0 (by decide), za_35, o_build za_35 pl_35, sz_35, loadA_eq ia_35, o_indexAddrS es_39, ze_39, o_buildSlice es_39 ze_39 (by decide) ba_39_1, ap_39, builtin_append ni_39, o_indexAddrS es_22, ze_22, o_buildSlice es_22 ze_22 (by decide) ba_22_1, ap_22, builtin_append ni_22, e1, a1, h0, append_some ap_39, append_some ap_22, srcCells, s1, s2, this]
theorem l22o : ∀ q y : Nat, y + q = HH - 1 →
    lpB Try.prog LL ⟨22, 49, 1, none⟩ n22_20 n22_21 ⟨[(1, pp 1), (6, wh 2 (allL (gr W nd) (W - 1) y).length), (7, wh 3 (allL (gr W nd) (W - 1) y).length), (19, iv ((HH : Int) - 1)), (20, iv y)],
      [.cells cs 1 true own, fb W HH o 0 off n c, clB (allL (gr W nd) (W - 1) y), ixB (allL (gr W nd) (W - 1) y)], []⟩ =
      some (.exit 0, ⟨[(6, wh 1 (allL (gr W nd) (W - 1) (HH - 1)).length), (7, wh 2 (allL (gr W nd) (W - 1) (HH - 1)).length)],
      [.cells cs 1 true own, clB (allL (gr W nd) (W - 1) (HH - 1)), ixB (allL (gr W nd) (W - 1) (HH - 1))], []⟩) := by
  have hw := F.hw; have hh := F.hh
  intro q
  induction q with
  | zero =>
    intro y hy
    obtain rfl : y = HH - 1 := by omega
    have e1 : (((HH - 1 : Nat) : Int)) = (HH : Int) - 1 := by omega
    rw [e1]
    generalize allL (gr W nd) (W - 1) (HH - 1) = Q
    rw [lpB_eq]
    simp only [clB, ixB]
    simp (maxSteps := 1000000) (disch := first | omega | decide | assumption | simp [scal]) [loadA_eq ia_24, o_fieldAddr fa_24_1 (by decide), loadA_eq ia_3, o_fieldAddr fa_24_0 (by decide), za_35, o_build za_35 pl_35, sz_35, loadA_eq ia_35, o_indexAddrS es_39, ze_39, o_buildSlice es_39 ze_39 (by decide) ba_39_1, ap_39, builtin_append ni_39, o_indexAddrS es_22, ze_22, o_buildSlice es_22 ze_22 (by decide) ba_22_1, ap_22, builtin_append ni_22]
  | succ q ih =>
    intro y hy
    have e1 : (y : Int) < (HH : Int) - 1 := by omega
    have this := ih (y + 1) (by omega)
    have al := allL_len (g := gr W nd) (Wm := W - 1) y
    have hm := Nat.mul_le_mul (show y ≤ 8 by omega) (show W - 1 ≤ 8 by omega)
    have L := l22i c own F y (by omega) (allL (gr W nd) (W - 1) y) (by omega) (W - 1) 0 (by omega)
    have r0 : rowL (gr W nd) y 0 = [] := rfl
    rw [r0, List.append_nil, ← allL_succ] at L
    generalize allL (gr W nd) (W - 1) (HH - 1) = Q at *
    generalize allL (gr W nd) (W - 1) (y + 1) = Q1 at *
    generalize allL (gr W nd) (W - 1) y = Q2 at *
    simp only [clB, ixB, cast1, Int.natCast_zero] at this L ⊢
    generalize Q2.flatMap clG = P1 at *
    generalize Q2.map ixG = P2 at *
    rw [lpB_eq]
    simp (maxSteps := 1000000) (disch := first | omega | decide | assumption | simp [scal]) [loadA_eq ia_24, o_fieldAddr fa_24_1 (by decide), loadA_eq ia_3, o_fieldAddr fa_24_0 (by decide), za_35, o_build za_35 pl_35, sz_35, loadA_eq ia_35, o_indexAddrS es_39, ze_39, o_buildSlice es_39 ze_39 (by decide) ba_39_1, ap_39, builtin_append ni_39, o_indexAddrS es_22, ze_22, o_buildSlice es_22 ze_22 (by decide) ba_22_1, ap_22, builtin_append ni_22, e1, L, this]
theorem c22 (hg : ∀ i, i < n → ¬ badAt W o nd i) : LL.run 22 [fv W HH o 0 off n c] [.cells cs 1 true own] = some ⟨.tuple #[wh 1 (allL (gr W nd) (W - 1) (HH - 1)).length, wh 2 (allL (gr W nd) (W - 1) (HH - 1)).length, iv 0], [clB (allL (gr W nd) (W - 1) (HH - 1)), ixB (allL (gr W nd) (W - 1) (HH - 1))], []⟩ := by
  have hw := F.hw; have hh := F.hh
  refine go (by decide) ?_
  rw [run22 _ _ _ (by simp)]
  have a1 := fun bx => k17 c own F hg (b := 0) (h := .cells cs 1 true own :: bx) rfl
  have L := l22o c own F (HH - 1) 0 (by omega)
  have r0 : allL (gr W nd) (W - 1) 0 = [] := rfl
  rw [r0] at L
  generalize allL (gr W nd) (W - 1) (HH - 1) = Q at *
  simp only [clB, ixB, List.flatMap_nil, List.map_nil, List.length_nil, Int.natCast_zero] at L ⊢
  simp (maxSteps := 1000000) (disch := first | omega | decide | assumption | simp [scal]) [loadA_eq ia_24, o_fieldAddr fa_24_1 (by decide), loadA_eq ia_3, o_fieldAddr fa_24_0 (by decide), za_35, o_build za_35 pl_35, sz_35, loadA_eq ia_35, o_indexAddrS es_39, ze_39, o_buildSlice es_39 ze_39 (by decide) ba_39_1, ap_39, builtin_append ni_39, o_indexAddrS es_22, ze_22, o_buildSlice es_22 ze_22 (by decide) ba_22_1, ap_22, builtin_append ni_22, a1, L]
theorem k22 (hg : ∀ i, i < n → ¬ badAt W o nd i) {b : Nat} {h : List Blk} (hb : h[b]? = some (.cells cs 1 true own)) :
    callH LL 22 [fv W HH o b off n c] h = some ⟨.tuple #[wh h.length (allL (gr W nd) (W - 1) (HH - 1)).length, wh (h.length + 1) (allL (gr W nd) (W - 1) (HH - 1)).length, iv 0], h ++ [clB (allL (gr W nd) (W - 1) (HH - 1)), ixB (allL (gr W nd) (W - 1) (HH - 1))], [b], []⟩ :=
  callN_1 (ptr_fv2 rfl) hb noIdB_flat (ren_fv2 rfl) (c22 c own F hg) (by intro b hb; simp at hb; rcases hb with rfl | rfl; exact clB_noId; exact ixB_noId) (by simp [renV, dep, nblt, optAll])
end
end Go.Proofs.Ytgpcjdhlijompaa.oo
namespace Go.Proofs.Ytgpcjdhlijompaa.oo
open Go.GE
set_option linter.unusedVariables false
set_option linter.unusedSimpArgs false
set_option linter.unusedSectionVars false
set_option maxRecDepth 100000
set_option maxHeartbeats 4000000
attribute [local simp] runOps_nil runOps_cons runOpsF_nil runOpsF_cons fstS_some fstF_some opStep_eq want_none oStep_true oStep_false fin_pure fin_read fin_alloc fin_write storeB wrN cellV addWr o_move o_assign o_pick o_alloc o_box o_load o_store o_nilCheck o_bin o_un o_extract o_callV o_callB o_callI callV_f callV_y callV_fc o_makeFunc partsA Instr.fill builtin_len builtin_max2 bin_add bin_sub bin_mul bin_quo bin_rem bin_lss bin_leq bin_gtr bin_geq bin_eql bin_neq un_neg un_not bin_shr bin_shl wrap_u64_id opd opds optAll putO nbeq nblt constOk isC ops sub cl cr co bodyOf thenS_normal thenS_ret thenS_exit thenS_goto afterN_normal afterN_ret afterN_exit afterN_goto condS_true condS_false blockS_normal blockS_ret blockS_exit blockS_goto headS normS normK_eq fixS_nil fixS_cons fix1 fixV emptyB keepO_nil keepO_cons roundC_normal roundC_exit roundC_ret roundC_goto sweep_eq sweepD rnm pickR pickW rootsB ptrT renT ptrFn renFn ptrB_flat ptrB_non renB_flat renB_non plainS_some drawS_some fpsOk disj unord range' dropTo enumT undef wrap_i64_id Value.cells mkCells ptrTo scal cellsAt rdN endS_ret resultsA Option.bind_some tupV finish reachN dep ptrL_eq ptrL renL_eq renL ptrV_bool ptrV_int ptrV_string ptrV_nilFunc ptrV_nilIface ptrV_nilPtr ptrV_ptr ptrV_nilSl ptrV_sl ptrV_iface ptrV_agg ptrV_tuple ptrV_func renV_bool renV_int renV_string renV_nilFunc renV_nilIface renV_nilPtr renV_ptr renV_nilSl renV_sl renV_iface renV_agg renV_tuple renV_func gotoS_goto gotoS_normal gotoS_exit gotoS_ret skip_seq sliceE bnd bndHi intOf optOpd keepT_nil keepT_cons keepC_t keepC_f lk_nil lk_cons lkC_t lkC_f has_nil has_cons hasC_t hasC_f rep_nil rep_cons repC_t repC_f put_eq putC_t putC_f mem_nil mem_cons memC_t memC_f idx_nil idx_cons idxC_t idxC_f reach_nil reach_cons reachC_t reachC_f
attribute [local simp] n31_1s n31_3s n31_6s n31_11s n31_13s n31_14s n31_12s n31_10s n31_18s n31_21s n31_23s n31_24s n31_22s n31_20s n31_25s n31_19s n31_17s n31_16s n31_26s n31_15s n31_9s n31_8s n31_8g n31_7s n31_5s n31_28s n31_29s n31_27s n31_4s n31_2s n31_0s Try.f31 n32_1s n32_3s n32_5s n32_6s n32_4s n32_2s n32_0s Try.f32
abbrev u8 (a : Nat) : Value := .int .u8 a
abbrev ldv (a b d : Nat) (blk off n c : Nat) : Value := .agg #[u8 a, u8 b, u8 d, .slice (some ⟨blk, off, none⟩) n c]
theorem tm4 (x : Nat) : Int.tmod (x : Int) 4 = ((x % 4 : Nat) : Int) := rfl
theorem td4 (x : Nat) : Int.tdiv (x : Int) 4 = ((x / 4 : Nat) : Int) := rfl
theorem tm20d (x : Nat) : Int.tmod (((x / 4 : Nat) : Int)) 20 = ((x / 4 % 20 : Nat) : Int) := rfl
/-- a block of needles -/
def nB (f : Nat → Int) (n : Nat) : List Value := (List.range n).map fun i => iv (f i)
theorem nB_len {f : Nat → Int} {n : Nat} : (nB f n).length = n := by simp [nB]
theorem nB_succ {f : Nat → Int} {n : Nat} : nB f (n + 1) = nB f n ++ [iv (f n)] := by simp [nB, List.range_succ]
theorem nB_at {f : Nat → Int} {n i : Nat} (h : i < n) : (nB f n)[0 + i]? = some (iv (f i)) := by simp [nB, h]
/-- the needles of a land -/
def ndl31 (m : Nat) (rw : Nat → Nat) (i : Nat) : Int := if i < m then ((rw i % 4 : Nat) : Int) * 800 + ((rw i / 4 % 20 : Nat) : Int) else 0
theorem ndl_isN {m : Nat} {rw : Nat → Nat} (i : Nat) : isN (ndl31 m rw i) := by
  unfold ndl31 isN
  split <;> omega
theorem ndl_sure {m : Nat} {rw : Nat → Nat} {o : Int} (ho : 0 ≤ o ∧ o < 80) (i j : Nat) : sureS o (turnS (ndl31 m rw i) (ndl31 m rw j)) := by
  have key : ∀ i, ∃ A B : Int, ndl31 m rw i = 800 * A + B ∧ (A = 0 ∨ A = 1 ∨ A = 2 ∨ A = 3) ∧ 0 ≤ B ∧ B ≤ 19 := fun i => by
    unfold ndl31
    split
    · exact ⟨((rw i % 4 : Nat) : Int), ((rw i / 4 % 20 : Nat) : Int), by omega, by omega, by omega, by omega⟩
    · exact ⟨0, 0, by omega, by omega, by omega, by omega⟩
  obtain ⟨A, B, e, hA, hB⟩ := key i
  obtain ⟨C, D, f, hC, hD⟩ := key j
  rw [e, f]
  unfold sureS turnS
  rcases hA with rfl | rfl | rfl | rfl <;> rcases hC with rfl | rfl | rfl | rfl <;> omega
section
variable (a b d W HH : Nat) (O : Int) (off n c : Nat) {cs : List Value} (own : Bool) {rw : Nat → Nat}
theorem l31 (hW : 2 ≤ W ∧ W ≤ 6) (hH : 2 ≤ HH ∧ HH ≤ 6) (ho : 0 ≤ O ∧ O < 80) (hcs : ∀ i, i < n → cs[off + i]? = some (u8 (rw i))) (hrw : ∀ i, i < n → rw i < 256) (N : Nat) (hN : N = W * HH) : ∀ k i : Nat, i + k = N →
    lpB Try.prog LL ⟨31, 59, 1, none⟩ n31_8 n31_9 ⟨[(1, pp 1), (2, pp 2), (3, pp 4), (4, iv i)], [.cells cs 1 true own, .cells [u8 a, u8 b, u8 d, .slice (some ⟨0, off, none⟩) n c] 1 false true, .cells [iv 0, iv 0, iv 0, wh 3 0] 1 false true, .cells [] 1 true true, fb W HH O 5 0 i i, .cells (nB (ndl31 n rw) i) 1 true true], []⟩ =
      some (.exit 0, ⟨[(2, pp 1), (3, pp 3)], [.cells cs 1 true own, .cells [iv 0, iv 0, iv 0, wh 2 0] 1 false true, .cells [] 1 true true, fb W HH O 4 0 N N, .cells (nB (ndl31 n rw) N) 1 true true], []⟩) := by
  have hm : (W : Int) * HH = (N : Int) := by rw [hN]; simp
  have hN1 : N ≤ 36 := by have := Nat.mul_le_mul hW.2 hH.2; omega
  intro k
  induction k with
  | zero =>
    intro i hi
    obtain rfl : i = N := by omega
    generalize nB (ndl31 n rw) i = Z
    rw [lpB_eq]
    simp (maxSteps := 1000000) (disch := first | omega | decide | assumption | simp [scal]) [za_24, o_fieldAddr fa_59_0 (by decide), loadA_eq ia_5, o_convI cv_5_3, o_fieldAddr fa_59_1 (by decide), o_fieldAddr fa_59_2 (by decide), o_build za_24 pl_24, sz_24, o_fieldAddr fa_24_0 (by decide), loadA_eq ia_3, o_fieldAddr fa_24_1 (by decide), o_fieldAddr fa_59_3 (by decide), loadA_eq ia_57, lenA_sl lk_57, o_indexAddrS es_57, o_fieldAddr fa_24_3 (by decide), loadA_eq ia_22, o_indexAddrS es_22, ze_22, o_buildSlice es_22 ze_22 (by decide) ba_22_1, ap_22, builtin_append ni_22, sz_22, loadA_eq ia_24, hm]
  | succ k ih =>
    intro i hi
    have e1 : (i : Int) < N := by omega
    have e1' : i < N := by omega
    have this := ih (i + 1) (by omega)
    rw [nB_succ] at this
    have c1 := fun x hp b c rd => app_list (h := hp) (b := b) (c := c) (k := 1) (by' := 8) (l := i) (cs := nB (ndl31 n rw) i) (new := [iv x]) (rd := rd) (by rw [nB_len]; omega) (by omega) (by omega) rfl
    generalize nB (ndl31 n rw) N = Z9 at *
    generalize nB (ndl31 n rw) i = Z at *
    simp only [cast1] at this ⊢
    by_cases hin : i < n
    · have e2 := hcs i hin
      have e3 := hrw i hin
      have hv : ndl31 n rw i = ((rw i % 4 : Nat) : Int) * 800 + ((rw i / 4 % 20 : Nat) : Int) := by unfold ndl31; rw [if_pos hin]
      rw [hv] at this
      have r1 := tm4 (rw i)
      have r2 := td4 (rw i)
      have r3 := tm20d (rw i)
      have r4 : rw i % 4 < 4 := Nat.mod_lt _ (by decide)
      have r5 : rw i / 4 % 20 < 20 := Nat.mod_lt _ (by decide)
      have r6 : rw i / 4 < 64 := by omega
      generalize rw i / 4 % 20 = z1 at *
      generalize rw i / 4 = z2 at *
      generalize rw i % 4 = z3 at *
      generalize rw i = z at *
      rw [lpB_eq]
      simp (maxSteps := 1000000) (disch := first | omega | decide | assumption | simp [scal]) [za_24, o_fieldAddr fa_59_0 (by decide), loadA_eq ia_5, o_convI cv_5_3, o_fieldAddr fa_59_1 (by decide), o_fieldAddr fa_59_2 (by decide), o_build za_24 pl_24, sz_24, o_fieldAddr fa_24_0 (by decide), loadA_eq ia_3, o_fieldAddr fa_24_1 (by decide), o_fieldAddr fa_59_3 (by decide), loadA_eq ia_57, lenA_sl lk_57, o_indexAddrS es_57, o_fieldAddr fa_24_3 (by decide), loadA_eq ia_22, o_indexAddrS es_22, ze_22, o_buildSlice es_22 ze_22 (by decide) ba_22_1, ap_22, builtin_append ni_22, sz_22, loadA_eq ia_24, hm, e1, e1', hin, e2, r1, r2, r3, append_some ap_22, srcCells, c1, this]
    · have hv : ndl31 n rw i = 0 := by unfold ndl31; rw [if_neg hin]
      rw [hv] at this
      rw [lpB_eq]
      simp (maxSteps := 1000000) (disch := first | omega | decide | assumption | simp [scal]) [za_24, o_fieldAddr fa_59_0 (by decide), loadA_eq ia_5, o_convI cv_5_3, o_fieldAddr fa_59_1 (by decide), o_fieldAddr fa_59_2 (by decide), o_build za_24 pl_24, sz_24, o_fieldAddr fa_24_0 (by decide), loadA_eq ia_3, o_fieldAddr fa_24_1 (by decide), o_fieldAddr fa_59_3 (by decide), loadA_eq ia_57, lenA_sl lk_57, o_indexAddrS es_57, o_fieldAddr fa_24_3 (by decide), loadA_eq ia_22, o_indexAddrS es_22, ze_22, o_buildSlice es_22 ze_22 (by decide) ba_22_1, ap_22, builtin_append ni_22, sz_22, loadA_eq ia_24, hm, e1, e1', hin, append_some ap_22, srcCells, c1, this]
theorem c31 (hW : 2 ≤ W ∧ W ≤ 6) (hH : 2 ≤ HH ∧ HH ≤ 6) (ho : 0 ≤ O ∧ O < 80) (x1 : (2 : Int) + Int.tmod (a : Int) 5 = W) (x2 : (2 : Int) + Int.tmod (b : Int) 5 = HH) (x3 : Int.tmod (d : Int) 80 = O) (ha : a < 256) (hb : b < 256) (hd : d < 256)
    (hcs : ∀ i, i < n → cs[off + i]? = some (u8 (rw i))) (hrw : ∀ i, i < n → rw i < 256) :
    LL.run 31 [ldv a b d 0 off n c] [.cells cs 1 true own] = some ⟨fv W HH O 1 0 (W * HH : Nat) (W * HH : Nat), [.cells (nB (ndl31 n rw) (W * HH)) 1 true true], []⟩ := by
  refine go (by decide) ?_
  rw [run31 _ _ _ (by simp)]
  have L := l31 a b d W HH O off n c (cs := cs) own hW hH ho hcs hrw _ rfl (W * HH) 0 (by omega)
  have z0 : nB (ndl31 n rw) 0 = [] := rfl
  rw [z0] at L
  generalize W * HH = N at *
  generalize nB (ndl31 n rw) N = Z at *
  simp only [Int.natCast_zero] at L
  simp (maxSteps := 1000000) (disch := first | omega | decide | assumption | simp [scal]) [za_24, o_fieldAddr fa_59_0 (by decide), loadA_eq ia_5, o_convI cv_5_3, o_fieldAddr fa_59_1 (by decide), o_fieldAddr fa_59_2 (by decide), o_build za_24 pl_24, sz_24, o_fieldAddr fa_24_0 (by decide), loadA_eq ia_3, o_fieldAddr fa_24_1 (by decide), o_fieldAddr fa_59_3 (by decide), loadA_eq ia_57, lenA_sl lk_57, o_indexAddrS es_57, o_fieldAddr fa_24_3 (by decide), loadA_eq ia_22, o_indexAddrS es_22, ze_22, o_buildSlice es_22 ze_22 (by decide) ba_22_1, ap_22, builtin_append ni_22, sz_22, loadA_eq ia_24, x1, x2, x3, L]
theorem k31 (hW : 2 ≤ W ∧ W ≤ 6) (hH : 2 ≤ HH ∧ HH ≤ 6) (ho : 0 ≤ O ∧ O < 80) (x1 : (2 : Int) + Int.tmod (a : Int) 5 = W) (x2 : (2 : Int) + Int.tmod (b : Int) 5 = HH) (x3 : Int.tmod (d : Int) 80 = O) (ha : a < 256) (hb : b < 256) (hd : d < 256)
    (hcs : ∀ i, i < n → cs[off + i]? = some (u8 (rw i))) (hrw : ∀ i, i < n → rw i < 256) {blk : Nat} {h : List Blk} (hh : h[blk]? = some (.cells cs 1 true own)) :
    callH LL 31 [ldv a b d blk off n c] h = some ⟨fv W HH O h.length 0 (W * HH) (W * HH), h ++ [.cells (nB (ndl31 n rw) (W * HH)) 1 true true], [blk], []⟩ :=
  callN_1 (by simp [ptrV, dep]) hh noIdB_flat (args' := [ldv a b d 0 off n c]) (by simp [renV, dep, optAll, idx, nbeq]) (c31 a b d W HH O off n c own hW hH ho x1 x2 x3 ha hb hd hcs hrw) (by intro b hb; simp at hb; subst hb; exact noIdB_flat) (by simp [renV, dep, nblt, optAll])
end
abbrev ar4 (p q r s : Nat) : Value := .agg #[u8 p, u8 q, u8 r, u8 s]
section
variable {W HH : Nat} {O : Int} {n b : Nat}
theorem k32 (c : Nat) (p q r s X Y BW BH : Nat) {cs : List Value} {own : Bool} (hW : 2 ≤ W ∧ W ≤ 6) (hH : 2 ≤ HH ∧ HH ≤ 6) (hp : p < 256) (hq : q < 256) (hr : r < 256) (hs : s < 256)
    (y1 : Int.tmod (p : Int) ((W : Int) - 1) = X) (y2 : Int.tmod (q : Int) ((HH : Int) - 1) = Y) (y3 : (1 : Int) + Int.tmod (r : Int) ((W : Int) - 1 - X) = BW) (y4 : (1 : Int) + Int.tmod (s : Int) ((HH : Int) - 1 - Y) = BH)
    (g1 : X + 1 < W) (g2 : Y + 1 < HH) (g3 : BW ≤ W) (g4 : BH ≤ HH) {h : List Blk} (hh : h[b]? = some (.cells cs 1 true own)) :
    callH LL 32 [fv W HH O b 0 n c, ar4 p q r s] h = some ⟨bv X Y BW BH, h, [b], []⟩ := by
  refine callG hh rfl (go (by decide) ?_) rfl
  rw [run32 _ _ _ (by simp)]
  simp (maxSteps := 1000000) (disch := first | omega | decide | assumption | simp [scal]) [za_35, o_indexAddrA ea_60, loadA_eq ia_5, o_convI cv_5_3, o_fieldAddr fa_24_0 (by decide), loadA_eq ia_3, o_fieldAddr fa_24_1 (by decide), sz_35, loadA_eq ia_35, y1, y2, y3, y4, k34]
theorem land_bad {o : Int} {m W : Nat} {rw : Nat → Nat} (ho : 0 ≤ o ∧ o < 80) (i : Nat) : ¬ badAt W o (ndl31 m rw) i := by
  rintro (⟨_, h⟩ | ⟨_, h⟩) <;> exact h (ndl_sure ho _ _)
theorem fld_land {W HH : Nat} {O : Int} {m : Nat} {rw : Nat → Nat} (hW : 2 ≤ W ∧ W ≤ 6) (hH : 2 ≤ HH ∧ HH ≤ 6) (ho : 0 ≤ O ∧ O < 80) :
    Fld W HH O 0 (W * HH) (nB (ndl31 m rw) (W * HH)) (ndl31 m rw) :=
  ⟨by omega, by omega, by omega, Nat.mul_comm _ _, fun i hi => nB_at hi, fun i _ => ndl_isN i⟩
theorem sure_land {W HH : Nat} {O : Int} {m : Nat} {rw : Nat → Nat} (hW : 2 ≤ W ∧ W ≤ 6) (hH : 2 ≤ HH ∧ HH ≤ 6) (ho : 0 ≤ O ∧ O < 80) : Sure (gr W (ndl31 m rw)) W HH :=
  (fld_land hW hH ho).sure fun i _ => land_bad ho i
end
end Go.Proofs.Ytgpcjdhlijompaa.oo
namespace Go.Proofs.Ytgpcjdhlijompaa.oo
open Go.GE
set_option linter.unusedVariables false
set_option linter.unusedSimpArgs false
set_option linter.unusedSectionVars false
set_option maxRecDepth 100000
set_option maxHeartbeats 4000000
/-- each needle is off by something -/
theorem ring_off {g g' e : Nat → Nat → Int} {X Y W H : Nat} (hr : ∀ x y, X ≤ x → x < X + W → Y ≤ y → y ≤ Y + H → turnS (g' x y) (g' (x + 1) y) = turnS (g x y) (g (x + 1) y) + (e (x + 1) y - e x y) ∧ turnS (g' (x + 1) y) (g' x y) = turnS (g (x + 1) y) (g x y) + (e x y - e (x + 1) y))
    (hu : ∀ x y, X ≤ x → x ≤ X + W → Y ≤ y → y < Y + H → turnS (g' x y) (g' x (y + 1)) = turnS (g x y) (g x (y + 1)) + (e x (y + 1) - e x y) ∧ turnS (g' x (y + 1)) (g' x y) = turnS (g x (y + 1)) (g x y) + (e x y - e x (y + 1))) : ringR g' X Y W H = ringR g X Y W H := by
  rw [ringR_sum, ringR_sum]
  have s1 : ∀ k, k ≤ W → ∀ y, Y ≤ y → y ≤ Y + H → sumN (bA g' X y) k = sumN (bA g X y) k + (e (X + k) y - e X y) ∧ sumN (bB g' X y) k = sumN (bB g X y) k + (e X y - e (X + k) y) := by
    intro k
    induction k with
    | zero => intro _ y _ _; simp [sumN]
    | succ k ih =>
      intro hk y h1 h2
      obtain ⟨i1, i2⟩ := ih (by omega) y h1 h2
      obtain ⟨j1, j2⟩ := hr (X + k) y (by omega) (by omega) h1 h2
      simp only [sumN, i1, i2, bA, bB, j1, j2]
      rw [show X + (k + 1) = X + k + 1 by omega]
      omega
  have s2 : ∀ k, k ≤ H → ∀ x, X ≤ x → x ≤ X + W → sumN (lA g' x Y) k = sumN (lA g x Y) k + (e x (Y + k) - e x Y) ∧ sumN (lB g' x Y) k = sumN (lB g x Y) k + (e x Y - e x (Y + k)) := by
    intro k
    induction k with
    | zero => intro _ x _ _; simp [sumN]
    | succ k ih =>
      intro hk x h1 h2
      obtain ⟨i1, i2⟩ := ih (by omega) x h1 h2
      obtain ⟨j1, j2⟩ := hu x (Y + k) h1 h2 (by omega) (by omega)
      simp only [sumN, i1, i2, lA, lB, j1, j2]
      rw [show Y + (k + 1) = Y + k + 1 by omega]
      omega
  have a1 := (s1 W (Nat.le_refl _) Y (Nat.le_refl _) (by omega)).1
  have a2 := (s1 W (Nat.le_refl _) (Y + H) (by omega) (by omega)).2
  have a3 := (s2 H (Nat.le_refl _) (X + W) (by omega) (by omega)).1
  have a4 := (s2 H (Nat.le_refl _) X (Nat.le_refl _) (by omega)).2
  omega
theorem indx_of {g g' : Nat → Nat → Int} {X Y W H X' : Nat} (h : ringR g' X' Y W H = ringR g X Y W H) : indx g' X' Y W H = indx g X Y W H := by unfold indx; rw [h]
end Go.Proofs.Ytgpcjdhlijompaa.oo
namespace Go.Proofs.Ytgpcjdhlijompaa.oo
open Go.GE
set_option linter.unusedVariables false
set_option linter.unusedSimpArgs false
set_option linter.unusedSectionVars false
set_option maxRecDepth 100000
set_option maxHeartbeats 4000000
theorem g35 : Try.prog.eqGuardType Try.prog.depth 35 = false := by kernel_rfl
theorem s35 : Try.prog.stoodInHeld 35 = false := by kernel_rfl
theorem part3 (cs : Array Value) (o : Nat) : partA Try.prog 3 cs o = cs[o]? := by
  unfold partA
  rw [Try.underlying3]
  cases h : Try.prog.info? 3 with
  | none => have : (Try.prog.info? 3).isSome = true := by kernel_rfl
            rw [h] at this; cases this
  | some i => rfl
theorem neq35 {cst : Bool} (a b c d : Int) : binA Try.prog .neq 35 cst (.agg #[iv a, iv b, iv c, iv d]) (.agg #[iv a, iv b, iv c, iv d]) = some (.bool false) := by
  simp [binA, g35, eqA, Try.underlying35, s35, eqFs, part3, Try.underlying3]
theorem clG_get {L : List (Nat × Nat × Int)} {k x y : Nat} {v : Int} (h : L[k]? = some (x, y, v)) : (L.flatMap clG)[k * 4]? = some (iv x) ∧ (L.flatMap clG)[k * 4 + 1]? = some (iv y) ∧ (L.flatMap clG)[k * 4 + 2]? = some (iv 1) ∧ (L.flatMap clG)[k * 4 + 3]? = some (iv 1) ∧ (L.map ixG)[k]? = some (iv v) := by
  have g := fun j (hj : j < 4) => flat_get (g := clG) (k := 4) (fun _ => rfl) h hj
  refine ⟨g 0 (by omega), g 1 (by omega), g 2 (by omega), g 3 (by omega), ?_⟩
  rw [List.getElem?_map, h]
  rfl
end Go.Proofs.Ytgpcjdhlijompaa.oo
namespace Go.Proofs.Ytgpcjdhlijompaa.oo
open Go.GE
set_option linter.unusedVariables false
set_option linter.unusedSimpArgs false
set_option linter.unusedSectionVars false
set_option maxRecDepth 100000
set_option maxHeartbeats 4000000
structure Part (W HH X Y BW BH : Nat) : Prop where
  x : X + 1 < W
  y : Y + 1 < HH
  w1 : 1 ≤ BW
  h1 : 1 ≤ BH
  w2 : X + BW + 1 ≤ W
  h2 : Y + BH + 1 ≤ HH
end Go.Proofs.Ytgpcjdhlijompaa.oo
namespace Go.Proofs.Ytgpcjdhlijompaa.oo
open Go.GE
set_option linter.unusedVariables false
set_option linter.unusedSimpArgs false
set_option linter.unusedSectionVars false
set_option maxRecDepth 100000
set_option maxHeartbeats 4000000
theorem fld_of {W HH : Nat} {O : Int} {f : Nat → Int} (hW : 2 ≤ W ∧ W ≤ 6) (hH : 2 ≤ HH ∧ HH ≤ 6) (ho : 0 ≤ O ∧ O < 80) (hf : ∀ i, i < W * HH → isN (f i)) : Fld W HH O 0 (W * HH) (nB f (W * HH)) f :=
  ⟨by omega, by omega, by omega, Nat.mul_comm _ _, fun i hi => nB_at hi, hf⟩
theorem bad_of {W : Nat} {o : Int} {f : Nat → Int} {N : Nat} (h : ∀ i j, i < N → j ≤ i → sureS o (turnS (f i) (f j))) : ∀ i, i < N → ¬ badAt W o f i := by
  rintro i hi (⟨_, hb⟩ | ⟨_, hb⟩)
  · exact hb (h i _ hi (Nat.sub_le _ _))
  · exact hb (h i _ hi (Nat.sub_le _ _))
section
variable {nd : Nat → Int} {O : Int} (hn : ∀ i, isN (nd i)) (hs : ∀ i j, sureS O (turnS (nd i) (nd j))) (ho : 0 ≤ O)
def zN (off : Nat → Int) (O : Int) (i : Nat) : Int := (off i).tmod (O + 1)
def oN (nd : Nat → Int) (off : Nat → Int) (O : Int) (i : Nat) : Int := (nd i + zN off O i + 3600) % 3600
theorem zN_bd {off : Nat → Int} (ho : 0 ≤ O) (i : Nat) : -O ≤ zN off O i ∧ zN off O i ≤ O := by
  unfold zN
  rcases Int.le_total 0 (off i) with h | h
  · rw [Int.tmod_eq_emod_of_nonneg h]
    have := Int.emod_nonneg (off i) (show O + 1 ≠ 0 by omega)
    have := Int.emod_lt_of_pos (off i) (show 0 < O + 1 by omega)
    omega
  · have e : (off i).tmod (O + 1) = -((-off i).tmod (O + 1)) := by rw [Int.neg_tmod, Int.neg_neg]
    rw [e, Int.tmod_eq_emod_of_nonneg (by omega)]
    have := Int.emod_nonneg (-off i) (show O + 1 ≠ 0 by omega)
    have := Int.emod_lt_of_pos (-off i) (show 0 < O + 1 by omega)
    omega
include hs ho
include hn
theorem oN_turn {off : Nat → Int} {i j : Nat} : turnS (oN nd off O i) (oN nd off O j) = turnS (nd i) (nd j) + (zN off O j - zN off O i) := by
  have h := hs i j
  have z1 := zN_bd (off := off) ho i
  have z2 := zN_bd (off := off) ho j
  unfold sureS at h
  unfold oN
  generalize zN off O i = u at *
  generalize zN off O j = v at *
  unfold turnS at *
  omega
theorem oN_sure {off : Nat → Int} {i j : Nat} : sureS 0 (turnS (oN nd off O i) (oN nd off O j)) := by
  have h := hs i j
  have z1 := zN_bd (off := off) ho i
  have z2 := zN_bd (off := off) ho j
  rw [oN_turn hn hs ho]
  unfold sureS at *
  omega
theorem oN_ring {off : Nat → Int} {Wf X Y W H : Nat} : indx (gr Wf (oN nd off O)) X Y W H = indx (gr Wf nd) X Y W H :=
  indx_of (ring_off (e := gr Wf (zN off O)) (fun x y _ _ _ _ => ⟨oN_turn hn hs ho, oN_turn hn hs ho⟩) fun x y _ _ _ _ => ⟨oN_turn hn hs ho, oN_turn hn hs ho⟩)
theorem oN_all {off : Nat → Int} {Wf : Nat} : ∀ Wm y, allL (gr Wf (oN nd off O)) Wm y = allL (gr Wf nd) Wm y := by
  intro Wm y
  have e : ∀ y x, rowL (gr Wf (oN nd off O)) y x = rowL (gr Wf nd) y x := fun y x => by
    unfold rowL
    simp only [oN_ring hn hs ho]
  unfold allL
  simp only [e]
end
end Go.Proofs.Ytgpcjdhlijompaa.oo
namespace Go.Proofs.Ytgpcjdhlijompaa.oo
open Go.GE
set_option linter.unusedVariables false
set_option linter.unusedSimpArgs false
set_option linter.unusedSectionVars false
set_option maxRecDepth 100000
set_option maxHeartbeats 4000000
attribute [local simp] runOps_nil runOps_cons runOpsF_nil runOpsF_cons fstS_some fstF_some opStep_eq want_none oStep_true oStep_false fin_pure fin_read fin_alloc fin_write storeB wrN cellV addWr o_move o_assign o_pick o_alloc o_box o_load o_store o_nilCheck o_bin o_un o_extract o_callV o_callB o_callI callV_f callV_y callV_fc o_makeFunc partsA Instr.fill builtin_len builtin_max2 bin_add bin_sub bin_mul bin_quo bin_rem bin_lss bin_leq bin_gtr bin_geq bin_eql bin_neq un_neg un_not bin_shr bin_shl wrap_u64_id opd opds optAll putO nbeq nblt constOk isC ops sub cl cr co bodyOf thenS_normal thenS_ret thenS_exit thenS_goto afterN_normal afterN_ret afterN_exit afterN_goto condS_true condS_false blockS_normal blockS_ret blockS_exit blockS_goto headS normS normK_eq fixS_nil fixS_cons fix1 fixV emptyB keepO_nil keepO_cons roundC_normal roundC_exit roundC_ret roundC_goto sweep_eq sweepD rnm pickR pickW rootsB ptrT renT ptrFn renFn ptrB_flat ptrB_non renB_flat renB_non plainS_some drawS_some fpsOk disj unord range' dropTo enumT undef wrap_i64_id Value.cells mkCells ptrTo scal cellsAt rdN endS_ret resultsA Option.bind_some tupV finish reachN dep ptrL_eq ptrL renL_eq renL ptrV_bool ptrV_int ptrV_string ptrV_nilFunc ptrV_nilIface ptrV_nilPtr ptrV_ptr ptrV_nilSl ptrV_sl ptrV_iface ptrV_agg ptrV_tuple ptrV_func renV_bool renV_int renV_string renV_nilFunc renV_nilIface renV_nilPtr renV_ptr renV_nilSl renV_sl renV_iface renV_agg renV_tuple renV_func gotoS_goto gotoS_normal gotoS_exit gotoS_ret skip_seq sliceE bnd bndHi intOf optOpd keepT_nil keepT_cons keepC_t keepC_f lk_nil lk_cons lkC_t lkC_f has_nil has_cons hasC_t hasC_f rep_nil rep_cons repC_t repC_f put_eq putC_t putC_f mem_nil mem_cons memC_t memC_f idx_nil idx_cons idxC_t idxC_f reach_nil reach_cons reachC_t reachC_f
attribute [local simp] n8_1s n8_3s n8_5s n8_7s n8_9s n8_12s n8_16s n8_19s n8_20s n8_18s n8_24s n8_25s n8_23s n8_22s n8_26s n8_21s n8_17s n8_15s n8_14s n8_14g n8_13s n8_11s n8_28s n8_30s n8_32s n8_34s n8_37s n8_40s n8_41s n8_39s n8_42s n8_38s n8_36s n8_45s n8_49s n8_52s n8_53s n8_51s n8_57s n8_59s n8_62s n8_63s n8_61s n8_64s n8_60s n8_58s n8_56s n8_55s n8_65s n8_54s n8_50s n8_48s n8_47s n8_47g n8_46s n8_44s n8_67s n8_68s n8_66s n8_43s n8_35s n8_33s n8_31s n8_29s n8_27s n8_10s n8_8s n8_6s n8_4s n8_2s n8_0s Try.f8
@[irreducible] def oC (off : Nat → Int) : List Value := (List.range 36).map fun k => .int .i8 (off k)
theorem oC_len {off : Nat → Int} : (oC off).length = 36 := by simp [oC]
theorem oC_all {off : Nat → Int} : (oC off).all scal = true := by simp [oC, scal]
theorem oC_arr {off : Nat → Int} : (oC off).toArray.all scal 0 36 = true := by
  have h : (oC off).toArray.size = 36 := by simp [oC_len]
  have : (oC off).toArray.all scal 0 (oC off).toArray.size = true := by simp [oC_all]
  rwa [h] at this
theorem oC_get {off : Nat → Int} {i : Nat} (h : i < 36) : (oC off)[i]? = some (.int .i8 (off i)) := by simp [oC, h]
section
variable {W HH : Nat} {O : Int} (X Y BW BH N : Nat) {ac : List Value} {own : Bool} (nd : Nat → Int) (off : Nat → Int)
theorem l8_0 (ho : 0 ≤ O ∧ O < 80) (hof : ∀ i, -128 ≤ off i ∧ off i ≤ 127) (hN : N ≤ 36) (hn : ∀ i, isN (nd i)) : ∀ q i : Nat, i + q = N →
    lpB Try.prog LL ⟨8, 148, 1, none⟩ n8_14 n8_15 ⟨[(5, pp 1), (7, pp 2), (8, pp 4), (9, pp 5), (32, wh 3 N), (33, iv N), (34, iv i)],
      [.cells ac 1 true own, .cells (oC off) 1 true true, fb W HH O 3 0 N N, .cells (nB nd N) 1 true true, bb X Y BW BH, fb W HH 0 6 0 i i, .cells (nB (oN nd off O) i) 1 true true], []⟩ =
      some (.exit 0, ⟨[(7, pp 1), (8, pp 3), (9, pp 4)],
      [.cells ac 1 true own, fb W HH O 2 0 N N, .cells (nB nd N) 1 true true, bb X Y BW BH, fb W HH 0 5 0 N N, .cells (nB (oN nd off O) N) 1 true true], []⟩) := by
  intro q
  induction q with
  | zero =>
    intro i hi
    obtain rfl : i = N := by omega
    generalize nB nd i = z1
    generalize nB (oN nd off O) i = z2
    rw [lpB_eq]
    simp (maxSteps := 1000000) (disch := first | omega | decide | assumption | simp [scal]) [loadA_eq ia_59, za_24, sz_24, loadA_eq ia_24, loadA_eq ia_60, za_35, sz_35, o_fieldAddr fa_24_2 (by decide), sz_3, o_fieldAddr fa_24_3 (by decide), sz_22, loadA_eq ia_22, lenA_sl lk_22, o_indexAddrS es_22, loadA_eq ia_3, o_indexAddrA ea_67, loadA_eq ia_66, o_convI cv_66_3, ze_22, o_buildSlice es_22 ze_22 (by decide) ba_22_1, ap_22, builtin_append ni_22, loadA_eq ia_35, lenA_sl lk_39, o_indexAddrS es_39, want_some q8_37g2, want_some q8_37g6, want_some q8_37g10, want_some q8_37g14, want_some q8_37g19, want_some q8_37g26, want_some q8_37g33, want_some q8_59g9]
  | succ q ih =>
    intro i hi
    have e1 : (i : Int) < N := by omega
    have e1' : i < N := by omega
    have e2 : (i : Int) < 36 := by omega
    have e2' : i < 36 := by omega
    have this := ih (i + 1) (by omega)
    have g1 : (nB nd N)[i]? = some (iv (nd i)) := by have := nB_at (f := nd) e1'; rwa [Nat.zero_add] at this
    have g2 := oC_get (off := off) (i := i) (by omega)
    obtain ⟨d1, d2⟩ := hn i
    obtain ⟨f1, f2⟩ := hof i
    have zb := zN_bd (off := off) ho.1 i
    have hz : (off i).tmod (O + 1) = zN off O i := rfl
    have hp : oN nd off O i = (nd i + zN off O i + 3600) % 3600 := rfl
    have t1 : Int.tmod (nd i + zN off O i + 3600) 3600 = (nd i + zN off O i + 3600) % 3600 := Int.tmod_eq_emod_of_nonneg (by omega)
    have hne : O + 1 ≠ 0 := by omega
    have c1 := fun x hp b c rd => app_list (h := hp) (b := b) (c := c) (k := 1) (by' := 8) (l := i) (cs := nB (oN nd off O) i) (new := [iv x]) (rd := rd) (by rw [nB_len]; omega) (by omega) (by omega) rfl
    rw [nB_succ, hp] at this
    clear hp ih
    generalize nB (oN nd off O) N = z2 at *
    generalize nB (oN nd off O) i = z5 at *
    generalize nB nd N = z1 at *
    generalize zN off O i = zz at *
    generalize nd i = v1 at *
    generalize off i = v2 at *
    simp only [cast1] at this ⊢
    generalize (v1 + zz + 3600) % 3600 = w1 at *
    rw [lpB_eq]
    simp (maxSteps := 1000000) (disch := first | omega | decide | assumption | simp [scal]) [loadA_eq ia_59, za_24, sz_24, loadA_eq ia_24, loadA_eq ia_60, za_35, sz_35, o_fieldAddr fa_24_2 (by decide), sz_3, o_fieldAddr fa_24_3 (by decide), sz_22, loadA_eq ia_22, lenA_sl lk_22, o_indexAddrS es_22, loadA_eq ia_3, o_indexAddrA ea_67, loadA_eq ia_66, o_convI cv_66_3, ze_22, o_buildSlice es_22 ze_22 (by decide) ba_22_1, ap_22, builtin_append ni_22, loadA_eq ia_35, lenA_sl lk_39, o_indexAddrS es_39, want_some q8_37g2, want_some q8_37g6, want_some q8_37g10, want_some q8_37g14, want_some q8_37g19, want_some q8_37g26, want_some q8_37g33, want_some q8_59g9, e1, e1', e2, e2', g1, g2, hz, t1, hne, append_some ap_22, srcCells, c1, this]
theorem l8_2 (L : List (Nat × Nat × Int)) (hL : L.length ≤ 100) : ∀ q i : Nat, i + q = L.length →
    lpB Try.prog LL ⟨8, 148, 1, none⟩ n8_47 n8_48 ⟨[(16, wh 1 L.length), (17, wh 2 L.length), (19, wh 3 L.length), (20, wh 4 L.length), (122, iv L.length), (123, iv i)],
      [.cells ac 1 true own, clB L, ixB L, clB L, ixB L], []⟩ =
      some (.exit 2, ⟨[], [.cells ac 1 true own], []⟩) := by
  intro q
  induction q with
  | zero =>
    intro i hi
    obtain rfl : i = L.length := by omega
    rw [lpB_eq]
    simp only [clB, ixB]
    simp (maxSteps := 1000000) (disch := first | omega | decide | assumption | simp [scal]) [loadA_eq ia_59, za_24, sz_24, loadA_eq ia_24, loadA_eq ia_60, za_35, sz_35, o_fieldAddr fa_24_2 (by decide), sz_3, o_fieldAddr fa_24_3 (by decide), sz_22, loadA_eq ia_22, lenA_sl lk_22, o_indexAddrS es_22, loadA_eq ia_3, o_indexAddrA ea_67, loadA_eq ia_66, o_convI cv_66_3, ze_22, o_buildSlice es_22 ze_22 (by decide) ba_22_1, ap_22, builtin_append ni_22, loadA_eq ia_35, lenA_sl lk_39, o_indexAddrS es_39, want_some q8_37g2, want_some q8_37g6, want_some q8_37g10, want_some q8_37g14, want_some q8_37g19, want_some q8_37g26, want_some q8_37g33, want_some q8_59g9]
  | succ q ih =>
    intro i hi
    have e1 : (i : Int) < L.length := by omega
    have e1' : i < L.length := by omega
    have this := ih (i + 1) (by omega)
    obtain ⟨q1, q2, q3, q4, q5⟩ := clG_get (L := L) (k := i) (x := L[i].1) (y := L[i].2.1) (v := L[i].2.2) (List.getElem?_eq_getElem e1')
    generalize L[i].1 = x at *
    generalize L[i].2.1 = y at *
    generalize L[i].2.2 = v at *
    simp only [clB, ixB, cast1] at this ⊢
    generalize L.flatMap clG = P1 at *
    generalize L.map ixG = P2 at *
    rw [lpB_eq]
    simp (maxSteps := 1000000) (disch := first | omega | decide | assumption | simp [scal]) [loadA_eq ia_59, za_24, sz_24, loadA_eq ia_24, loadA_eq ia_60, za_35, sz_35, o_fieldAddr fa_24_2 (by decide), sz_3, o_fieldAddr fa_24_3 (by decide), sz_22, loadA_eq ia_22, lenA_sl lk_22, o_indexAddrS es_22, loadA_eq ia_3, o_indexAddrA ea_67, loadA_eq ia_66, o_convI cv_66_3, ze_22, o_buildSlice es_22 ze_22 (by decide) ba_22_1, ap_22, builtin_append ni_22, loadA_eq ia_35, lenA_sl lk_39, o_indexAddrS es_39, want_some q8_37g2, want_some q8_37g6, want_some q8_37g10, want_some q8_37g14, want_some q8_37g19, want_some q8_37g26, want_some q8_37g33, want_some q8_59g9, neq35, e1, e1', q1, q2, q3, q4, q5, this]
end
section
variable (a b d p q r s W HH : Nat) (O : Int) (X Y BW BH : Nat) (of n c : Nat) {ac : List Value} {own : Bool} {rw : Nat → Nat}
theorem c8 (off : Nat → Int) (hof : ∀ i, -128 ≤ off i ∧ off i ≤ 127) (hW : 2 ≤ W ∧ W ≤ 6) (hH : 2 ≤ HH ∧ HH ≤ 6) (ho : 0 ≤ O ∧ O < 80) (x1 : (2 : Int) + Int.tmod (a : Int) 5 = W) (x2 : (2 : Int) + Int.tmod (b : Int) 5 = HH) (x3 : Int.tmod (d : Int) 80 = O) (ha : a < 256) (hb : b < 256) (hd : d < 256)
    (hcs : ∀ i, i < n → ac[of + i]? = some (u8 (rw i))) (hrw : ∀ i, i < n → rw i < 256) (hp : p < 256) (hq : q < 256) (hr : r < 256) (hs : s < 256)
    (y1 : Int.tmod (p : Int) ((W : Int) - 1) = X) (y2 : Int.tmod (q : Int) ((HH : Int) - 1) = Y) (y3 : (1 : Int) + Int.tmod (r : Int) ((W : Int) - 1 - X) = BW) (y4 : (1 : Int) + Int.tmod (s : Int) ((HH : Int) - 1 - Y) = BH) (P : Part W HH X Y BW BH) :
    LL.run 8 [ldv a b d 0 of n c, ar4 p q r s, .agg (oC off).toArray] [.cells ac 1 true own] = some ⟨.bool true, [], []⟩ := by
  obtain ⟨px, py, pw, ph, pw2, ph2⟩ := P
  refine go (by decide) ?_
  rw [run8 _ _ _ (by simp)]
  have a0 := fun bx => k31 a b d W HH O of n c hW hH ho x1 x2 x3 ha hb hd hcs hrw (blk := 0) (h := .cells ac 1 true own :: bx) (own := own) rfl
  have F := fld_land (m := n) (rw := rw) hW hH ho
  have hg : ∀ i, i < W * HH → ¬ badAt W O (ndl31 n rw) i := fun i _ => land_bad ho i
  have G := sure_land (m := n) (rw := rw) hW hH ho
  have hN : W * HH ≤ 36 := Nat.mul_le_mul hW.2 hH.2
  have hn : ∀ i, isN (ndl31 n rw i) := fun i => ndl_isN i
  have hsu : ∀ i j, sureS O (turnS (ndl31 n rw i) (ndl31 n rw j)) := fun i j => ndl_sure ho i j
  have L := l8_0 X Y BW BH (W * HH) (ac := ac) (own := own) (W := W) (HH := HH) (O := O) (ndl31 n rw) off ho hof hN hn (W * HH) 0 (by omega)
  have Fo := fld_of (f := oN (ndl31 n rw) off O) (O := 0) hW hH (by omega) fun i _ => by unfold oN isN; omega
  have go' := bad_of (W := W) (o := 0) (f := oN (ndl31 n rw) off O) (N := W * HH) fun i j _ _ => oN_sure hn hsu ho.1
  have a1 := fun b0 b1 b2 b3 bx => k32 (W := W) (HH := HH) (O := O) (n := W * HH) (b := 4) (W * HH) p q r s X Y BW BH hW hH hp hq hr hs y1 y2 y3 y4 px py (by omega) (by omega) (h := b0 :: b1 :: b2 :: b3 :: .cells (nB (ndl31 n rw) (W * HH)) 1 true true :: bx) (own := true) rfl
  have k1 := fun b0 b1 bx => k20 (W * HH) F hg (X := X) (Y := Y) (W := BW) (H := BH) (b := 2) (h := b0 :: b1 :: .cells (nB (ndl31 n rw) (W * HH)) 1 true true :: bx) (own := true) rfl pw ph pw2 ph2
  have k2 := fun b0 b1 b2 b3 b4 bx => k20 (W * HH) Fo go' (X := X) (Y := Y) (W := BW) (H := BH) (b := 5) (h := b0 :: b1 :: b2 :: b3 :: b4 :: .cells (nB (oN (ndl31 n rw) off O) (W * HH)) 1 true true :: bx) (own := true) rfl pw ph pw2 ph2
  have k3 := fun b0 b1 bx => k22 (W * HH) true F hg (b := 2) (h := b0 :: b1 :: .cells (nB (ndl31 n rw) (W * HH)) 1 true true :: bx) rfl
  have k4 := fun b0 b1 b2 b3 b4 bx => k22 (W * HH) true Fo go' (b := 5) (h := b0 :: b1 :: b2 :: b3 :: b4 :: .cells (nB (oN (ndl31 n rw) off O) (W * HH)) 1 true true :: bx) rfl
  rw [oN_ring hn hsu ho.1] at k2
  rw [oN_all hn hsu ho.1] at k4
  have z1 : nB (oN (ndl31 n rw) off O) 0 = [] := rfl
  rw [z1] at L
  have ll := allL_len (g := gr W (ndl31 n rw)) (Wm := W - 1) (HH - 1)
  have lm := Nat.mul_le_mul (show HH - 1 ≤ 5 by omega) (show W - 1 ≤ 5 by omega)
  clear F Fo hg go' G hn hsu z1
  generalize allL (gr W (ndl31 n rw)) (W - 1) (HH - 1) = Q at *
  have L2 := l8_2 (ac := ac) (own := own) Q (by omega) Q.length 0 (by omega)
  generalize indx (gr W (ndl31 n rw)) X Y BW BH = v at *
  generalize nB (oN (ndl31 n rw) off O) (W * HH) = zq at *
  generalize nB (ndl31 n rw) (W * HH) = z at *
  generalize W * HH = N at *
  simp only [Int.natCast_zero, clB, ixB] at *
  generalize Q.flatMap clG = P1 at *
  generalize Q.map ixG = P2 at *
  simp (maxSteps := 1000000) (disch := first | omega | decide | assumption | simp [scal]) [loadA_eq ia_59, za_24, sz_24, loadA_eq ia_24, loadA_eq ia_60, za_35, sz_35, o_fieldAddr fa_24_2 (by decide), sz_3, o_fieldAddr fa_24_3 (by decide), sz_22, loadA_eq ia_22, lenA_sl lk_22, o_indexAddrS es_22, loadA_eq ia_3, o_indexAddrA ea_67, loadA_eq ia_66, o_convI cv_66_3, ze_22, o_buildSlice es_22 ze_22 (by decide) ba_22_1, ap_22, builtin_append ni_22, loadA_eq ia_35, lenA_sl lk_39, o_indexAddrS es_39, want_some q8_37g2, want_some q8_37g6, want_some q8_37g10, want_some q8_37g14, want_some q8_37g19, want_some q8_37g26, want_some q8_37g33, want_some q8_59g9, k14, k34, a0, a1, k1, k2, k3, k4, L, L2, oC_arr, oC_len, oC_all]
end
end Go.Proofs.Ytgpcjdhlijompaa.oo
namespace Go.Proofs.Ytgpcjdhlijompaa.oo
open Go.GE Go.ChangeShapes Go.WideShapes Go.RowKit
set_option linter.unusedVariables false
set_option linter.unusedSimpArgs false
set_option linter.unusedSectionVars false
set_option maxRecDepth 100000
set_option maxHeartbeats 4000000
section
variable {H : Type} {enc : TypeId × Value → H} {W : World} {base b0 : Nat} {v : Value} {d : DataW H} {p : List MemPlace}
theorem u8_flat {zs : List (List Int)} (h : ∀ z ∈ zs, wfs [.u8] z) : ∃ rw : Nat → Nat, (∀ i, i < zs.length → (zs.flatMap (ints [.u8]))[0 + i]? = some (u8 (rw i))) ∧ ∀ i, i < zs.length → rw i < 256 := by
  refine ⟨fun i => ((zs.getD i []).getD 0 0).toNat, fun i hi => ?_, fun i hi => ?_⟩
  · have hz := List.getElem?_eq_getElem hi
    have hm := h _ (List.getElem_mem hi)
    have e : zs.flatMap (ints [.u8]) = (zs.map fun z => z.getD 0 0).map fun n => Value.int .u8 n := by
      clear hz hm hi
      induction zs with
      | nil => rfl
      | cons z zs ih =>
        rw [List.flatMap_cons, ih fun y hy => h y (List.mem_cons_of_mem _ hy)]
        have hl := (h z List.mem_cons_self).1
        match z, hl with
        | [x], _ => rfl
    have hb : ∀ x ∈ zs[i], 0 ≤ x ∧ x ≤ 255 := fun x hx => u8_wf (wfs_get (n := 1) (k := .u8) hm hx)
    have hl : zs[i].length = 1 := hm.1
    rw [e, Nat.zero_add, List.getElem?_map, List.getElem?_map, hz]
    simp only [Option.map_some, List.getD_eq_getElem?_getD, hz, Option.getD_some, u8, Option.some.injEq, Value.int.injEq, true_and]
    match hzi : zs[i], hl with
    | [x], _ =>
      rw [hzi] at hb
      have := hb x (by simp)
      simp
      omega
  · have hz := List.getElem?_eq_getElem hi
    have hm := h _ (List.getElem_mem hi)
    have hb : ∀ x ∈ zs[i], 0 ≤ x ∧ x ≤ 255 := fun x hx => u8_wf (wfs_get (n := 1) (k := .u8) hm hx)
    have hl : zs[i].length = 1 := hm.1
    simp only [List.getD_eq_getElem?_getD, hz, Option.getD_some]
    match hzi : zs[i], hl with
    | [x], _ =>
      rw [hzi] at hb
      have := hb x (by simp)
      simp
      omega
/-- a land as it is handed over -/
theorem open_land (hv : Value.okWide Try.prog W .any b0 59 v) (hd : DataW.Trod enc Try.prog W base (fun _ => true) true 59 v d p) :
    ∃ (a b c n : Nat) (cs : List Value) (rw : Nat → Nat) (mb : Option MB), (a < 256 ∧ b < 256 ∧ c < 256) ∧ (∀ i, i < n → cs[0 + i]? = some (u8 (rw i))) ∧ (∀ i, i < n → rw i < 256) ∧ WinO W mb (.cells cs 1 true false) ∧
      ∀ (m : Mp) k, m k = mb → VR m (ldv a b c k 0 n n) v := by
  obtain ⟨c0, c1, c2, c3, y0, y1, y2, y3, n, rfl, _, _, t0, t1, t2, t3⟩ := Joins.open_agg4 Try.underlying59 (by kernel_rfl) (by kernel_rfl) hv hd
  obtain ⟨w, e0, _, w0⟩ := DataW.trod_int Try.underlying5 t0
  obtain ⟨hh, e1, _, w1⟩ := DataW.trod_int Try.underlying5 t1
  obtain ⟨o, e2, _, w2⟩ := DataW.trod_int Try.underlying5 t2
  cases e0; cases e1; cases e2
  obtain ⟨a, rfl, ha⟩ := nat_of (b := 255) (u8_wf w0)
  obtain ⟨b, rfl, hb⟩ := nat_of (b := 255) (u8_wf w1)
  obtain ⟨c, rfl, hcc⟩ := nat_of (b := 255) (u8_wf w2)
  have hc : Cell.okWide Try.prog W .any b0 57 c3 := okWide_cell (ts := [5, 5, 5, 57]) Try.underlying59 (by kernel_rfl) hv 3 (by decide) c3 rfl
  obtain ⟨zs, mb, hw, hvr, hz, _⟩ := open_slice_flat (ks := [.u8]) (d := 5) Try.underlying57 (by kernel_rfl) (by kernel_rfl) (by decide) hc t3
  obtain ⟨rw, r1, r2⟩ := u8_flat hz
  exact ⟨a, b, c, zs.length, _, rw, mb, ⟨ha, hb, hcc⟩, r1, r2, hw, fun m b hm => .agg (.cons (.int _ _) (.cons (.int _ _) (.cons (.int _ _) (.cons (hvr m b hm) .nil))))⟩
/-- four numbers as they are handed over -/
theorem open_ar4 (hv : Value.okWide Try.prog W .any b0 60 v) (hd : DataW.Trod enc Try.prog W base (fun _ => true) true 60 v d p) :
    ∃ (p q r s : Nat), (p < 256 ∧ q < 256 ∧ r < 256 ∧ s < 256) ∧ v = ar4 p q r s := by
  obtain ⟨zs, rfl, hw⟩ := open_array (ks := [.u8, .u8, .u8, .u8]) (d := 5) Try.underlying60 (by kernel_rfl) hv hd
  have h' : wfs (List.replicate 4 .u8) zs := hw
  match zs, hw.1, h' with
  | [x, y, z, w], _, h' =>
    obtain ⟨a, rfl, ha⟩ := nat_of (b := 255) (u8_wf (wfs_get h' (z := x) (by simp)))
    obtain ⟨b, rfl, hb⟩ := nat_of (b := 255) (u8_wf (wfs_get h' (z := y) (by simp)))
    obtain ⟨c, rfl, hc⟩ := nat_of (b := 255) (u8_wf (wfs_get h' (z := z) (by simp)))
    obtain ⟨e, rfl, he⟩ := nat_of (b := 255) (u8_wf (wfs_get h' (z := w) (by simp)))
    exact ⟨a, b, c, e, ⟨ha, hb, hc, he⟩, rfl⟩
theorem VR_ar4 {m : Mp} {p q r s : Nat} : VR m (ar4 p q r s) (ar4 p q r s) := .agg (.cons (.int _ _) (.cons (.int _ _) (.cons (.int _ _) (.cons (.int _ _) .nil))))
/-- thirty-six numbers as they are handed over -/
theorem open_off (hv : Value.okWide Try.prog W .any b0 67 v) (hd : DataW.Trod enc Try.prog W base (fun _ => true) true 67 v d p) : ∃ c : Nat → Int, (∀ i, -128 ≤ c i ∧ c i ≤ 127) ∧ v = .agg (oC c).toArray ∧ ∀ m : Mp, VR m (.agg (oC c).toArray) v := by
  obtain ⟨zs, rfl, hw⟩ := open_array (ks := List.replicate 36 .i8) (d := 5) (show Try.prog.underlying 67 = some (.array 36 66) from by kernel_rfl) (by kernel_rfl) hv hd
  have hl : zs.length = 36 := by have := hw.1; simpa using this
  have e : ints (List.replicate 36 .i8) zs = oC fun i => zs.getD i 0 := by
    apply List.ext_getElem?
    intro i
    by_cases hi : i < 36
    · rw [oC_get hi]
      have hz : zs[i]? = some zs[i] := List.getElem?_eq_getElem (by omega)
      unfold ints
      rw [List.getElem?_zipWith, List.getElem?_replicate, if_pos hi, hz]
      simp only [List.getD_eq_getElem?_getD, hz, Option.getD_some]
    · rw [List.getElem?_eq_none (by rw [ints_len hw.1]; simp; omega), List.getElem?_eq_none (by rw [oC_len]; omega)]
  refine ⟨fun i => zs.getD i 0, fun i => ?_, by rw [e], fun m => ?_⟩
  · show -128 ≤ zs.getD i 0 ∧ zs.getD i 0 ≤ 127
    by_cases hi : i < zs.length
    · have hb := i8_wf (wfs_get hw (List.getElem_mem hi))
      rw [List.getD_eq_getElem?_getD, List.getElem?_eq_getElem hi, Option.getD_some]
      exact hb
    · rw [List.getD_eq_getElem?_getD, List.getElem?_eq_none (by omega)]
      simp
  · rw [← e]
    exact .agg VRL_ints
end
/-- the numbers of a land and of its block -/
theorem land_dims (a b d p q r s : Nat) : ∃ (W HH : Nat) (O : Int) (X Y BW BH : Nat), (2 ≤ W ∧ W ≤ 6) ∧ (2 ≤ HH ∧ HH ≤ 6) ∧ (0 ≤ O ∧ O < 80) ∧ (2 : Int) + Int.tmod (a : Int) 5 = W ∧ (2 : Int) + Int.tmod (b : Int) 5 = HH ∧ Int.tmod (d : Int) 80 = O ∧
    Int.tmod (p : Int) ((W : Int) - 1) = X ∧ Int.tmod (q : Int) ((HH : Int) - 1) = Y ∧ (1 : Int) + Int.tmod (r : Int) ((W : Int) - 1 - X) = BW ∧ (1 : Int) + Int.tmod (s : Int) ((HH : Int) - 1 - Y) = BH ∧ Part W HH X Y BW BH := by
  have hx := Nat.mod_lt p (y := 2 + a % 5 - 1) (by omega)
  have hy := Nat.mod_lt q (y := 2 + b % 5 - 1) (by omega)
  have hw := Nat.mod_lt r (y := 2 + a % 5 - 1 - p % (2 + a % 5 - 1)) (by omega)
  have hh := Nat.mod_lt s (y := 2 + b % 5 - 1 - q % (2 + b % 5 - 1)) (by omega)
  have tm : ∀ (u v : Nat) (i : Int), i = (v : Int) → Int.tmod (u : Int) i = ((u % v : Nat) : Int) := fun u v i h => by subst h; rfl
  refine ⟨2 + a % 5, 2 + b % 5, ((d % 80 : Nat) : Int), p % (2 + a % 5 - 1), q % (2 + b % 5 - 1), 1 + r % (2 + a % 5 - 1 - p % (2 + a % 5 - 1)), 1 + s % (2 + b % 5 - 1 - q % (2 + b % 5 - 1)), by omega, by omega, by omega, ?_, ?_, ?_, ?_, ?_, ?_, ?_, ?_⟩
  · rw [tm a 5 5 rfl]; omega
  · rw [tm b 5 5 rfl]; omega
  · rw [tm d 80 80 rfl]
  · exact tm _ _ _ (by omega)
  · exact tm _ _ _ (by omega)
  · rw [tm r (2 + a % 5 - 1 - p % (2 + a % 5 - 1)) _ (by omega)]; omega
  · rw [tm s (2 + b % 5 - 1 - q % (2 + b % 5 - 1)) _ (by omega)]; omega
  · exact ⟨by omega, by omega, by omega, by omega, by omega, by omega⟩
end Go.Proofs.Ytgpcjdhlijompaa.oo
