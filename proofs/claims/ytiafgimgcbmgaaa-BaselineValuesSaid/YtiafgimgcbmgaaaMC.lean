/-
  Contracts of functions of the program at the limit evaluator. No condition.
-/
import Derived.Test.YtiafgimgcbmgaaaMB
import Derived.Test.YtiafgimgcbmgaaaN3
import Derived.Test.YtiafgimgcbmgaaaE39
namespace Go.Proofs.Ytiafgimgcbmgaaa.bl
open Go.GE
set_option linter.unusedVariables false
set_option linter.unusedSimpArgs false
set_option maxRecDepth 100000
set_option maxHeartbeats 4000000
attribute [local simp] runOps_nil runOps_cons runOpsF_nil runOpsF_cons fstS_some fstF_some opStep_eq want_none oStep_true oStep_false fin_pure fin_read fin_alloc fin_write storeB wrN cellV addWr o_move o_assign o_pick o_alloc o_box o_load o_store o_nilCheck o_bin o_un o_extract o_callV o_callB o_callI callV_f callV_y callV_fc o_makeFunc partsA Instr.fill builtin_len builtin_max2 bin_add bin_sub bin_mul bin_quo bin_rem bin_lss bin_leq bin_gtr bin_geq bin_eql bin_neq un_neg un_not bin_shr bin_shl wrap_u64_id opd opds optAll putO nbeq nblt constOk isC ops sub cl cr co bodyOf thenS_normal thenS_ret thenS_exit thenS_goto afterN_normal afterN_ret afterN_exit afterN_goto condS_true condS_false blockS_normal blockS_ret blockS_exit blockS_goto headS normS normK_eq fixS_nil fixS_cons fix1 fixV emptyB keepO_nil keepO_cons roundC_normal roundC_exit roundC_ret roundC_goto sweep_eq sweepD rnm pickR pickW rootsB ptrT renT ptrFn renFn ptrB_flat ptrB_non renB_flat renB_non plainS_some drawS_some fpsOk disj unord range' dropTo enumT undef wrap_i64_id Value.cells mkCells ptrTo scal cellsAt rdN endS_ret resultsA Option.bind_some tupV finish reachN dep ptrL_eq ptrL renL_eq renL ptrV_bool ptrV_int ptrV_string ptrV_nilFunc ptrV_nilIface ptrV_nilPtr ptrV_ptr ptrV_nilSl ptrV_sl ptrV_iface ptrV_agg ptrV_tuple ptrV_func renV_bool renV_int renV_string renV_nilFunc renV_nilIface renV_nilPtr renV_ptr renV_nilSl renV_sl renV_iface renV_agg renV_tuple renV_func gotoS_goto gotoS_normal gotoS_exit gotoS_ret skip_seq sliceE bnd bndHi intOf optOpd keepT_nil keepT_cons keepC_t keepC_f lk_nil lk_cons lkC_t lkC_f has_nil has_cons hasC_t hasC_f rep_nil rep_cons repC_t repC_f put_eq putC_t putC_f mem_nil mem_cons memC_t memC_f idx_nil idx_cons idxC_t idxC_f reach_nil reach_cons reachC_t reachC_f
attribute [local simp] n25_1s n25_4s n25_6s n25_9s n25_10s n25_8s n25_11s n25_7s n25_5s n25_3s n25_13s n25_16s n25_20s n25_23s n25_24s n25_22s n25_28s n25_32s n25_35s n25_36s n25_34s n25_38s n25_41s n25_42s n25_40s n25_44s n25_47s n25_48s n25_46s n25_49s n25_45s n25_43s n25_39s n25_37s n25_33s n25_31s n25_30s n25_50s n25_29s n25_27s n25_26s n25_51s n25_25s n25_21s n25_19s n25_18s n25_18g n25_17s n25_15s n25_53s n25_54s n25_52s n25_14s n25_12s n25_2s n25_0s Try.f25
/-- cells of pairs -/
def PrC (cs : List Value) (off m : Nat) (pr : Nat → Int × Int) : Prop := ∀ i, i < m → cs[off + i * 2]? = some (iv (pr i).1) ∧ cs[off + i * 2 + 1]? = some (iv (pr i).2)
/-- checking pairs, from the i-th on -/
def verL (r f : Int) (n : Nat) (l : Nat → Ab) (pr : Nat → Int × Int) : Nat → Nat → Int → Int
  | 0, _, _ => 0
  | k + 1, i, last =>
    if ((decide (0 ≤ (pr i).1) && decide ((pr i).1 ≤ (n : Int) - 1)) && (decide (0 ≤ (pr i).2) && decide ((pr i).2 ≤ (n : Int) - 1))) = false then 6
    else if (decide ((pr i).2 ≤ (pr i).1) || decide ((pr i).1 < last)) = true then 5
    else if needS r f (l (pr i).1.toNat) (l (pr i).2.toNat) = false then 12 else verL r f n l pr k (i + 1) (pr i).2
noncomputable def verS (r f : Int) (n : Nat) (l : Nat → Ab) (m : Nat) (pr : Nat → Int × Int) : Int := if chkS r f n l ≠ 0 then chkS r f n l else verL r f n l pr m 0 0
section
variable (r f : Int) (off n c off2 m c2 : Nat) (cs cs2 : List Value) (own own2 : Bool) (l : Nat → Ab) (pr : Nat → Int × Int)
theorem l25 (S : Sht r f n l) (hc : AbC cs off n l) (hc2 : PrC cs2 off2 m pr) (hm : m ≤ 1000) : ∀ k (i : Nat) last, i + k = m → 
    lpB Try.prog LL ⟨25, 69, 2, none⟩ n25_18 n25_19 ⟨[(2, pp 2), (6, iv last), (7, iv ((n : Int) - 1)), (19, stV 1 off2 m c2), (20, iv m), (21, iv i)], [.cells cs 3 true own, .cells cs2 2 true own2, shB r f 0 off n c], []⟩ =
      if verL r f n l pr k i last = 0 then some (.exit 0, ⟨[], [.cells cs 3 true own, .cells cs2 2 true own2], []⟩) else some (.ret, ⟨[(4, iv (verL r f n l pr k i last))], [.cells cs 3 true own, .cells cs2 2 true own2], []⟩) := by
  intro k
  induction k with
  | zero =>
    intro i last hi
    obtain rfl : i = m := by omega
    rw [lpB_eq]
    simp (maxSteps := 1000000) (disch := first | omega | decide | assumption | simp [scal]) [loadA_eq ia_24, o_fieldAddr fa_24_2 (by decide), loadA_eq ia_22, lenA_sl lk_22, lenA_sl lk_41, o_indexAddrS es_41, loadA_eq ia_95, za_95, sz_95, o_fieldAddr fa_95_0 (by decide), loadA_eq ia_3, o_fieldAddr fa_95_1 (by decide), o_indexAddrS es_22, loadA_eq ia_59, want_some q25_32g5, want_some q25_38g5, verL]
  | succ k ih =>
    intro i last hi
    have e1 : i < m := by omega
    have this := ih (i + 1) (pr i).2 (by omega)
    obtain ⟨e2, e3⟩ := hc2 i e1
    have hv : verL r f n l pr (k + 1) i last = (if ((decide (0 ≤ (pr i).1) && decide ((pr i).1 ≤ (n : Int) - 1)) && (decide (0 ≤ (pr i).2) && decide ((pr i).2 ≤ (n : Int) - 1))) = false then 6
      else if (decide ((pr i).2 ≤ (pr i).1) || decide ((pr i).1 < last)) = true then 5
      else if needS r f (l (pr i).1.toNat) (l (pr i).2.toNat) = false then 12 else verL r f n l pr k (i + 1) (pr i).2) := rfl
    rw [hv]
    clear hv
    rw [lpB_eq]
    obtain ⟨a, b, hab⟩ : ∃ a b, pr i = (a, b) := ⟨_, _, rfl⟩
    rw [hab] at this e2 e3 ⊢
    simp only [cast1] at this e2 e3 ⊢
    cases h1 : (decide (0 ≤ a) && decide (a ≤ (n : Int) - 1))
    · simp (maxSteps := 1000000) (disch := first | omega | decide | assumption | simp [scal]) [loadA_eq ia_24, o_fieldAddr fa_24_2 (by decide), loadA_eq ia_22, lenA_sl lk_22, lenA_sl lk_41, o_indexAddrS es_41, loadA_eq ia_95, za_95, sz_95, o_fieldAddr fa_95_0 (by decide), loadA_eq ia_3, o_fieldAddr fa_95_1 (by decide), o_indexAddrS es_22, loadA_eq ia_59, want_some q25_32g5, want_some q25_38g5, k56, e1, e2, e3, h1]
    cases h2 : (decide (0 ≤ b) && decide (b ≤ (n : Int) - 1))
    · simp (maxSteps := 1000000) (disch := first | omega | decide | assumption | simp [scal]) [loadA_eq ia_24, o_fieldAddr fa_24_2 (by decide), loadA_eq ia_22, lenA_sl lk_22, lenA_sl lk_41, o_indexAddrS es_41, loadA_eq ia_95, za_95, sz_95, o_fieldAddr fa_95_0 (by decide), loadA_eq ia_3, o_fieldAddr fa_95_1 (by decide), o_indexAddrS es_22, loadA_eq ia_59, want_some q25_32g5, want_some q25_38g5, k56, e1, e2, e3, h1, h2]
    have g1 := h1; have g2 := h2
    simp only [Bool.and_eq_true, decide_eq_true_eq] at g1 g2
    obtain ⟨x, rfl⟩ : ∃ x : Nat, a = x := ⟨a.toNat, by omega⟩
    obtain ⟨y, rfl⟩ : ∃ y : Nat, b = y := ⟨b.toNat, by omega⟩
    have e5 : (x : Int) ≤ (n : Int) - 1 := by omega
    have e6 : (y : Int) ≤ (n : Int) - 1 := by omega
    clear h1 h2
    by_cases h3 : (y : Int) ≤ x
    · simp (maxSteps := 1000000) (disch := first | omega | decide | assumption | simp [scal]) [loadA_eq ia_24, o_fieldAddr fa_24_2 (by decide), loadA_eq ia_22, lenA_sl lk_22, lenA_sl lk_41, o_indexAddrS es_41, loadA_eq ia_95, za_95, sz_95, o_fieldAddr fa_95_0 (by decide), loadA_eq ia_3, o_fieldAddr fa_95_1 (by decide), o_indexAddrS es_22, loadA_eq ia_59, want_some q25_32g5, want_some q25_38g5, k56, e1, e2, e3, e5, e6, h3]
    by_cases h4 : (x : Int) < last
    · simp (maxSteps := 1000000) (disch := first | omega | decide | assumption | simp [scal]) [loadA_eq ia_24, o_fieldAddr fa_24_2 (by decide), loadA_eq ia_22, lenA_sl lk_22, lenA_sl lk_41, o_indexAddrS es_41, loadA_eq ia_95, za_95, sz_95, o_fieldAddr fa_95_0 (by decide), loadA_eq ia_3, o_fieldAddr fa_95_1 (by decide), o_indexAddrS es_22, loadA_eq ia_59, want_some q25_32g5, want_some q25_38g5, k56, e1, e2, e3, e5, e6, h3, h4]
    have hx : x < n := by omega
    have hy : y < n := by omega
    obtain ⟨p2, p3, p4⟩ := hc x hx
    obtain ⟨q2, q3, q4⟩ := hc y hy
    have a1 := fun bx => k58 r f 0 off n c (h := .cells cs 3 true own :: bx) (cs := cs) (own := own) S.dr (l x) (S.ok x hx) (l y) (S.ok y hy) rfl
    rcases Bool.eq_false_or_eq_true (needS r f (l x) (l y)) with w | w
    · rw [w] at a1
      simp (maxSteps := 1000000) (disch := first | omega | decide | assumption | simp [scal]) [loadA_eq ia_24, o_fieldAddr fa_24_2 (by decide), loadA_eq ia_22, lenA_sl lk_22, lenA_sl lk_41, o_indexAddrS es_41, loadA_eq ia_95, za_95, sz_95, o_fieldAddr fa_95_0 (by decide), loadA_eq ia_3, o_fieldAddr fa_95_1 (by decide), o_indexAddrS es_22, loadA_eq ia_59, want_some q25_32g5, want_some q25_38g5, k56, e1, e2, e3, e5, e6, h3, h4, hx, hy, p2, p3, p4, q2, q3, q4, a1, w, this]
    · rw [w] at a1
      simp (maxSteps := 1000000) (disch := first | omega | decide | assumption | simp [scal]) [loadA_eq ia_24, o_fieldAddr fa_24_2 (by decide), loadA_eq ia_22, lenA_sl lk_22, lenA_sl lk_41, o_indexAddrS es_41, loadA_eq ia_95, za_95, sz_95, o_fieldAddr fa_95_0 (by decide), loadA_eq ia_3, o_fieldAddr fa_95_1 (by decide), o_indexAddrS es_22, loadA_eq ia_59, want_some q25_32g5, want_some q25_38g5, k56, e1, e2, e3, e5, e6, h3, h4, hx, hy, p2, p3, p4, q2, q3, q4, a1, w]
theorem c25 (hc : AbC cs off n l) (hc2 : PrC cs2 off2 m pr) (hm : m ≤ 1000) : LL.run 25 [shV r f 0 off n c, stV 1 off2 m c2] [.cells cs 3 true own, .cells cs2 2 true own2] = some ⟨iv (verS r f n l m pr), [], []⟩ := by
  refine go (by decide) ?_
  rw [run25 _ _ _ (by simp)]
  have a1 := fun bx => k22 r f 0 off n c (h := .cells cs 3 true own :: bx) l rfl hc
  unfold verS
  by_cases h : chkS r f n l = 0
  · have S := chkS_zero h
    have hn := S.n40
    have this := l25 r f off n c off2 m c2 cs cs2 own own2 l pr S hc hc2 hm m 0 0 (by omega)
    simp only [Int.natCast_zero] at this
    rw [if_neg (by simp [h])]
    by_cases h5 : verL r f n l pr m 0 0 = 0
    · rw [if_pos h5] at this
      simp (maxSteps := 1000000) (disch := first | omega | decide | assumption | simp [scal]) [loadA_eq ia_24, o_fieldAddr fa_24_2 (by decide), loadA_eq ia_22, lenA_sl lk_22, lenA_sl lk_41, o_indexAddrS es_41, loadA_eq ia_95, za_95, sz_95, o_fieldAddr fa_95_0 (by decide), loadA_eq ia_3, o_fieldAddr fa_95_1 (by decide), o_indexAddrS es_22, loadA_eq ia_59, want_some q25_32g5, want_some q25_38g5, a1, h, this, h5]
    · rw [if_neg h5] at this
      simp (maxSteps := 1000000) (disch := first | omega | decide | assumption | simp [scal]) [loadA_eq ia_24, o_fieldAddr fa_24_2 (by decide), loadA_eq ia_22, lenA_sl lk_22, lenA_sl lk_41, o_indexAddrS es_41, loadA_eq ia_95, za_95, sz_95, o_fieldAddr fa_95_0 (by decide), loadA_eq ia_3, o_fieldAddr fa_95_1 (by decide), o_indexAddrS es_22, loadA_eq ia_59, want_some q25_32g5, want_some q25_38g5, a1, h, this]
  · rw [if_pos h]
    simp (maxSteps := 1000000) (disch := first | omega | decide | assumption | simp [scal]) [loadA_eq ia_24, o_fieldAddr fa_24_2 (by decide), loadA_eq ia_22, lenA_sl lk_22, lenA_sl lk_41, o_indexAddrS es_41, loadA_eq ia_95, za_95, sz_95, o_fieldAddr fa_95_0 (by decide), loadA_eq ia_3, o_fieldAddr fa_95_1 (by decide), o_indexAddrS es_22, loadA_eq ia_59, want_some q25_32g5, want_some q25_38g5, a1, h]
end
end Go.Proofs.Ytiafgimgcbmgaaa.bl

namespace Go.Proofs.Ytiafgimgcbmgaaa.bl
open Go.GE
set_option linter.unusedVariables false
set_option linter.unusedSimpArgs false
set_option maxRecDepth 100000
set_option maxHeartbeats 4000000
attribute [local simp] runOps_nil runOps_cons runOpsF_nil runOpsF_cons fstS_some fstF_some opStep_eq want_none oStep_true oStep_false fin_pure fin_read fin_alloc fin_write storeB wrN cellV addWr o_move o_assign o_pick o_alloc o_box o_load o_store o_nilCheck o_bin o_un o_extract o_callV o_callB o_callI callV_f callV_y callV_fc o_makeFunc partsA Instr.fill builtin_len builtin_max2 bin_add bin_sub bin_mul bin_quo bin_rem bin_lss bin_leq bin_gtr bin_geq bin_eql bin_neq un_neg un_not bin_shr bin_shl wrap_u64_id opd opds optAll putO nbeq nblt constOk isC ops sub cl cr co bodyOf thenS_normal thenS_ret thenS_exit thenS_goto afterN_normal afterN_ret afterN_exit afterN_goto condS_true condS_false blockS_normal blockS_ret blockS_exit blockS_goto headS normS normK_eq fixS_nil fixS_cons fix1 fixV emptyB keepO_nil keepO_cons roundC_normal roundC_exit roundC_ret roundC_goto sweep_eq sweepD rnm pickR pickW rootsB ptrT renT ptrFn renFn ptrB_flat ptrB_non renB_flat renB_non plainS_some drawS_some fpsOk disj unord range' dropTo enumT undef wrap_i64_id Value.cells mkCells ptrTo scal cellsAt rdN endS_ret resultsA Option.bind_some tupV finish reachN dep ptrL_eq ptrL renL_eq renL ptrV_bool ptrV_int ptrV_string ptrV_nilFunc ptrV_nilIface ptrV_nilPtr ptrV_ptr ptrV_nilSl ptrV_sl ptrV_iface ptrV_agg ptrV_tuple ptrV_func renV_bool renV_int renV_string renV_nilFunc renV_nilIface renV_nilPtr renV_ptr renV_nilSl renV_sl renV_iface renV_agg renV_tuple renV_func gotoS_goto gotoS_normal gotoS_exit gotoS_ret skip_seq sliceE bnd bndHi intOf optOpd keepT_nil keepT_cons keepC_t keepC_f lk_nil lk_cons lkC_t lkC_f has_nil has_cons hasC_t hasC_f rep_nil rep_cons repC_t repC_f put_eq putC_t putC_f mem_nil mem_cons memC_t memC_f idx_nil idx_cons idxC_t idxC_f reach_nil reach_cons reachC_t reachC_f
attribute [local simp] n26_1s n26_3s n26_6s n26_9s n26_10s n26_8s n26_11s n26_7s n26_5s n26_14s n26_19s n26_21s n26_22s n26_20s n26_18s n26_26s n26_29s n26_32s n26_33s n26_31s n26_34s n26_30s n26_28s n26_37s n26_40s n26_41s n26_39s n26_42s n26_38s n26_36s n26_44s n26_47s n26_48s n26_46s n26_49s n26_45s n26_43s n26_35s n26_27s n26_25s n26_24s n26_50s n26_23s n26_17s n26_16s n26_16g n26_15s n26_13s n26_52s n26_53s n26_51s n26_12s n26_4s n26_2s n26_0s Try.f26 n27_1s n27_3s n27_6s n27_11s n27_13s n27_14s n27_12s n27_10s n27_17s n27_16s n27_18s n27_15s n27_9s n27_8s n27_8g n27_7s n27_5s n27_20s n27_21s n27_19s n27_4s n27_2s n27_0s Try.f27 n24_1s n24_4s n24_6s n24_9s n24_10s n24_8s n24_11s n24_7s n24_5s n24_3s n24_13s n24_14s n24_12s n24_2s n24_0s Try.f24
def lastP (pr : Nat → Int × Int) (i : Nat) : Int := if i = 0 then 0 else (pr (i - 1)).2
def pG (q : Int × Int) : List Value := [iv q.1, iv q.2]
/-- pairs as a block of their own -/
def pI (pr : Nat → Int × Int) (m : Nat) : Blk := .cells ((List.range m).flatMap fun j => pG (pr j)) 2 true true
theorem pI_len (pr : Nat → Int × Int) (i : Nat) : ((List.range i).flatMap fun j => pG (pr j)).length = i * 2 := by
  have := flat_len (g := fun j => pG (pr j)) (k := 2) (fun _ => rfl) (l := List.range i); simpa using this
theorem pI_C (pr : Nat → Int × Int) (m : Nat) : PrC ((List.range m).flatMap fun j => pG (pr j)) 0 m pr := by
  intro i hi
  have h : (List.range m)[i]? = some i := by simp [hi]
  refine ⟨?_, ?_⟩
  · have := flat_get (g := fun j => pG (pr j)) (k := 2) (fun _ => rfl) h (j := 0) (by omega); simpa [pG] using this
  · have := flat_get (g := fun j => pG (pr j)) (k := 2) (fun _ => rfl) h (j := 1) (by omega); simpa [pG] using this
section
variable (r f : Int) (off n c off2 m c2 : Nat) (cs cs2 : List Value) (own own2 : Bool) (l : Nat → Ab) (pr : Nat → Int × Int)
theorem l26 (S : Sht r f n l) (hc : AbC cs off n l) (hc2 : PrC cs2 off2 m pr) (hm : m ≤ 1000) : ∀ k (i : Nat), i + k = m → 
    lpB Try.prog LL ⟨26, 76, 2, none⟩ n26_16 n26_17 ⟨[(1, stV 1 off2 m c2), (2, pp 2), (6, iv i)], [.cells cs 3 true own, .cells cs2 2 true own2, shB r f 0 off n c], []⟩ =
      if verL r f n l pr k i (lastP pr i) = 0 then some (.exit 0, ⟨[], [.cells cs 3 true own, .cells cs2 2 true own2], []⟩) else some (.ret, ⟨[(4, iv (verL r f n l pr k i (lastP pr i)))], [.cells cs 3 true own, .cells cs2 2 true own2], []⟩) := by
  have hn := S.n40
  intro k
  induction k with
  | zero =>
    intro i hi
    obtain rfl : i = m := by omega
    rw [lpB_eq]
    simp (maxSteps := 1000000) (disch := first | omega | decide | assumption | simp [scal]) [loadA_eq ia_29, lenA_sl lk_46, o_indexAddrS es_46, loadA_eq ia_121, za_121, sz_121, o_fieldAddr fa_121_0 (by decide), loadA_eq ia_3, o_fieldAddr fa_29_2 (by decide), loadA_eq ia_27, lenA_sl lk_27, o_fieldAddr fa_121_1 (by decide), o_indexAddrS es_27, loadA_eq ia_108, want_some q26_29g8, want_some q26_37g5, want_some q26_37g8, verL]
  | succ k ih =>
    intro i hi
    have e1 : i < m := by omega
    have this := ih (i + 1) (by omega)
    have el : lastP pr (i + 1) = (pr i).2 := by simp [lastP]
    rw [el] at this
    obtain ⟨e2, e3⟩ := hc2 i e1
    have hv : verL r f n l pr (k + 1) i (lastP pr i) = (if ((decide (0 ≤ (pr i).1) && decide ((pr i).1 ≤ (n : Int) - 1)) && (decide (0 ≤ (pr i).2) && decide ((pr i).2 ≤ (n : Int) - 1))) = false then 6
      else if (decide ((pr i).2 ≤ (pr i).1) || decide ((pr i).1 < lastP pr i)) = true then 5
      else if needS r f (l (pr i).1.toNat) (l (pr i).2.toNat) = false then 12 else verL r f n l pr k (i + 1) (pr i).2) := rfl
    rw [hv]
    clear hv
    rw [lpB_eq]
    obtain ⟨a, b, hab⟩ : ∃ a b, pr i = (a, b) := ⟨_, _, rfl⟩
    rw [hab] at this e2 e3 ⊢
    simp only [cast1] at this e2 e3 ⊢
    cases h1 : (decide (0 ≤ a) && decide (a ≤ (n : Int) - 1))
    · simp (maxSteps := 1000000) (disch := first | omega | decide | assumption | simp [scal]) [loadA_eq ia_29, lenA_sl lk_46, o_indexAddrS es_46, loadA_eq ia_121, za_121, sz_121, o_fieldAddr fa_121_0 (by decide), loadA_eq ia_3, o_fieldAddr fa_29_2 (by decide), loadA_eq ia_27, lenA_sl lk_27, o_fieldAddr fa_121_1 (by decide), o_indexAddrS es_27, loadA_eq ia_108, want_some q26_29g8, want_some q26_37g5, want_some q26_37g8, k54, e1, e2, e3, h1]
    cases h2 : (decide (0 ≤ b) && decide (b ≤ (n : Int) - 1))
    · simp (maxSteps := 1000000) (disch := first | omega | decide | assumption | simp [scal]) [loadA_eq ia_29, lenA_sl lk_46, o_indexAddrS es_46, loadA_eq ia_121, za_121, sz_121, o_fieldAddr fa_121_0 (by decide), loadA_eq ia_3, o_fieldAddr fa_29_2 (by decide), loadA_eq ia_27, lenA_sl lk_27, o_fieldAddr fa_121_1 (by decide), o_indexAddrS es_27, loadA_eq ia_108, want_some q26_29g8, want_some q26_37g5, want_some q26_37g8, k54, e1, e2, e3, h1, h2]
    have g1 := h1; have g2 := h2
    simp only [Bool.and_eq_true, decide_eq_true_eq] at g1 g2
    obtain ⟨x, rfl⟩ : ∃ x : Nat, a = x := ⟨a.toNat, by omega⟩
    obtain ⟨y, rfl⟩ : ∃ y : Nat, b = y := ⟨b.toNat, by omega⟩
    have e5 : (x : Int) ≤ (n : Int) - 1 := by omega
    have e6 : (y : Int) ≤ (n : Int) - 1 := by omega
    clear h1 h2
    by_cases h3 : (y : Int) ≤ x
    · simp (maxSteps := 1000000) (disch := first | omega | decide | assumption | simp [scal]) [loadA_eq ia_29, lenA_sl lk_46, o_indexAddrS es_46, loadA_eq ia_121, za_121, sz_121, o_fieldAddr fa_121_0 (by decide), loadA_eq ia_3, o_fieldAddr fa_29_2 (by decide), loadA_eq ia_27, lenA_sl lk_27, o_fieldAddr fa_121_1 (by decide), o_indexAddrS es_27, loadA_eq ia_108, want_some q26_29g8, want_some q26_37g5, want_some q26_37g8, k54, e1, e2, e3, e5, e6, h3]
    have hx : x < n := by omega
    have hy : y < n := by omega
    obtain ⟨p2, p3, p4⟩ := hc x hx
    obtain ⟨q2, q3, q4⟩ := hc y hy
    have a1 := fun bx => k59 r f 0 off n c (h := .cells cs 3 true own :: bx) (cs := cs) (own := own) S.dr (l x) (S.ok x hx) (l y) (S.ok y hy) (by have := S.asc x y (by omega) hy; omega) rfl
    by_cases h0 : i = 0
    · have h4 : ¬ (x : Int) < lastP pr i := by simp [lastP, h0]
      have e7 : ¬ 0 < i := by omega
      rcases Bool.eq_false_or_eq_true (needS r f (l x) (l y)) with w | w
      · rw [w] at a1
        simp (maxSteps := 1000000) (disch := first | omega | decide | assumption | simp [scal]) [loadA_eq ia_29, lenA_sl lk_46, o_indexAddrS es_46, loadA_eq ia_121, za_121, sz_121, o_fieldAddr fa_121_0 (by decide), loadA_eq ia_3, o_fieldAddr fa_29_2 (by decide), loadA_eq ia_27, lenA_sl lk_27, o_fieldAddr fa_121_1 (by decide), o_indexAddrS es_27, loadA_eq ia_108, want_some q26_29g8, want_some q26_37g5, want_some q26_37g8, k54, e1, e2, e3, e5, e6, e7, h3, h4, hx, hy, p2, p3, p4, q2, q3, q4, a1, w, this]
      · rw [w] at a1
        simp (maxSteps := 1000000) (disch := first | omega | decide | assumption | simp [scal]) [loadA_eq ia_29, lenA_sl lk_46, o_indexAddrS es_46, loadA_eq ia_121, za_121, sz_121, o_fieldAddr fa_121_0 (by decide), loadA_eq ia_3, o_fieldAddr fa_29_2 (by decide), loadA_eq ia_27, lenA_sl lk_27, o_fieldAddr fa_121_1 (by decide), o_indexAddrS es_27, loadA_eq ia_108, want_some q26_29g8, want_some q26_37g5, want_some q26_37g8, k54, e1, e2, e3, e5, e6, e7, h3, h4, hx, hy, p2, p3, p4, q2, q3, q4, a1, w]
    · obtain ⟨j, hj⟩ : ∃ j, i = j + 1 := ⟨i - 1, by omega⟩
      obtain ⟨o2, o3⟩ := hc2 j (by omega)
      have e7 : 0 < i := by omega
      have e8 : lastP pr i = (pr j).2 := by subst hj; simp [lastP]
      rw [e8]
      have e9 : (i : Int) - 1 = j := by omega
      have e10 : j < m := by omega
      by_cases h4 : (x : Int) < (pr j).2
      · simp (maxSteps := 1000000) (disch := first | omega | decide | assumption | simp [scal]) [loadA_eq ia_29, lenA_sl lk_46, o_indexAddrS es_46, loadA_eq ia_121, za_121, sz_121, o_fieldAddr fa_121_0 (by decide), loadA_eq ia_3, o_fieldAddr fa_29_2 (by decide), loadA_eq ia_27, lenA_sl lk_27, o_fieldAddr fa_121_1 (by decide), o_indexAddrS es_27, loadA_eq ia_108, want_some q26_29g8, want_some q26_37g5, want_some q26_37g8, k54, e1, e2, e3, e5, e6, e7, e9, e10, o2, o3, h3, h4]
      rcases Bool.eq_false_or_eq_true (needS r f (l x) (l y)) with w | w
      · rw [w] at a1
        simp (maxSteps := 1000000) (disch := first | omega | decide | assumption | simp [scal]) [loadA_eq ia_29, lenA_sl lk_46, o_indexAddrS es_46, loadA_eq ia_121, za_121, sz_121, o_fieldAddr fa_121_0 (by decide), loadA_eq ia_3, o_fieldAddr fa_29_2 (by decide), loadA_eq ia_27, lenA_sl lk_27, o_fieldAddr fa_121_1 (by decide), o_indexAddrS es_27, loadA_eq ia_108, want_some q26_29g8, want_some q26_37g5, want_some q26_37g8, k54, e1, e2, e3, e5, e6, e7, e9, e10, o2, o3, h3, h4, hx, hy, p2, p3, p4, q2, q3, q4, a1, w, this]
      · rw [w] at a1
        simp (maxSteps := 1000000) (disch := first | omega | decide | assumption | simp [scal]) [loadA_eq ia_29, lenA_sl lk_46, o_indexAddrS es_46, loadA_eq ia_121, za_121, sz_121, o_fieldAddr fa_121_0 (by decide), loadA_eq ia_3, o_fieldAddr fa_29_2 (by decide), loadA_eq ia_27, lenA_sl lk_27, o_fieldAddr fa_121_1 (by decide), o_indexAddrS es_27, loadA_eq ia_108, want_some q26_29g8, want_some q26_37g5, want_some q26_37g8, k54, e1, e2, e3, e5, e6, e7, e9, e10, o2, o3, h3, h4, hx, hy, p2, p3, p4, q2, q3, q4, a1, w]
theorem c26 (hc : AbC cs off n l) (hc2 : PrC cs2 off2 m pr) (hm : m ≤ 1000) : LL.run 26 [shV r f 0 off n c, stV 1 off2 m c2] [.cells cs 3 true own, .cells cs2 2 true own2] = some ⟨iv (verS r f n l m pr), [], []⟩ := by
  refine go (by decide) ?_
  rw [run26 _ _ _ (by simp)]
  have a1 := fun bx => k23 r f 0 off n c (h := .cells cs 3 true own :: bx) l rfl hc
  unfold verS
  by_cases h : chkS r f n l = 0
  · have S := chkS_zero h
    have hn := S.n40
    have this := l26 r f off n c off2 m c2 cs cs2 own own2 l pr S hc hc2 hm m 0 (by omega)
    have e0 : lastP pr 0 = 0 := rfl
    simp only [Int.natCast_zero, e0] at this
    rw [if_neg (by simp [h])]
    by_cases h5 : verL r f n l pr m 0 0 = 0
    · rw [if_pos h5] at this
      simp (maxSteps := 1000000) (disch := first | omega | decide | assumption | simp [scal]) [loadA_eq ia_29, lenA_sl lk_46, o_indexAddrS es_46, loadA_eq ia_121, za_121, sz_121, o_fieldAddr fa_121_0 (by decide), loadA_eq ia_3, o_fieldAddr fa_29_2 (by decide), loadA_eq ia_27, lenA_sl lk_27, o_fieldAddr fa_121_1 (by decide), o_indexAddrS es_27, loadA_eq ia_108, want_some q26_29g8, want_some q26_37g5, want_some q26_37g8, a1, h, this, h5]
    · rw [if_neg h5] at this
      simp (maxSteps := 1000000) (disch := first | omega | decide | assumption | simp [scal]) [loadA_eq ia_29, lenA_sl lk_46, o_indexAddrS es_46, loadA_eq ia_121, za_121, sz_121, o_fieldAddr fa_121_0 (by decide), loadA_eq ia_3, o_fieldAddr fa_29_2 (by decide), loadA_eq ia_27, lenA_sl lk_27, o_fieldAddr fa_121_1 (by decide), o_indexAddrS es_27, loadA_eq ia_108, want_some q26_29g8, want_some q26_37g5, want_some q26_37g8, a1, h, this]
  · rw [if_pos h]
    simp (maxSteps := 1000000) (disch := first | omega | decide | assumption | simp [scal]) [loadA_eq ia_29, lenA_sl lk_46, o_indexAddrS es_46, loadA_eq ia_121, za_121, sz_121, o_fieldAddr fa_121_0 (by decide), loadA_eq ia_3, o_fieldAddr fa_29_2 (by decide), loadA_eq ia_27, lenA_sl lk_27, o_fieldAddr fa_121_1 (by decide), o_indexAddrS es_27, loadA_eq ia_108, want_some q26_29g8, want_some q26_37g5, want_some q26_37g8, a1, h]
theorem l27 (hc2 : PrC cs2 off2 m pr) (hm : m ≤ 1000) : ∀ k i : Nat, i + k = m →
    lpB Try.prog LL ⟨27, 19, 1, none⟩ n27_8 n27_9 ⟨[(0, stV 0 off2 m c2), (3, wh 1 i), (4, iv i)], [.cells cs2 2 true own2, pI pr i], []⟩ = some (.exit 0, ⟨[(3, wh 1 m)], [.cells cs2 2 true own2, pI pr m], []⟩) := by
  intro k
  induction k with
  | zero =>
    intro i hi
    obtain rfl : i = m := by omega
    rw [lpB_eq]
    simp only [pI]
    simp (maxSteps := 1000000) (disch := first | omega | decide | assumption | simp [scal]) [lenA_sl lk_41, o_indexAddrS es_41, loadA_eq ia_95, o_indexAddrS es_46, ze_46, o_buildSlice es_46 ze_46 (by decide) ba_46_1, ap_46, builtin_append ni_46]
  | succ k ih =>
    intro i hi
    have e1 : i < m := by omega
    have this := ih (i + 1) (by omega)
    obtain ⟨p2, p3⟩ := hc2 _ e1
    have c1 := fun h b c rd => app_list (h := h) (b := b) (c := c) (k := 2) (by' := 16) (l := i) (cs := (List.range i).flatMap fun j => pG (pr j)) (new := pG (pr i)) (rd := rd) (pI_len pr i) (by omega) (by omega) rfl
    rw [lpB_eq]
    simp only [cast1, pI, List.range_succ, List.flatMap_append, List.flatMap_cons, List.flatMap_nil, List.append_nil] at this ⊢
    rw [show pG (pr i) = [iv (pr i).1, iv (pr i).2] from rfl] at this c1
    simp (maxSteps := 1000000) (disch := first | omega | decide | assumption | simp [scal]) [lenA_sl lk_41, o_indexAddrS es_41, loadA_eq ia_95, o_indexAddrS es_46, ze_46, o_buildSlice es_46 ze_46 (by decide) ba_46_1, ap_46, builtin_append ni_46, e1, p2, p3, append_some ap_46, srcCells, c1, this]
theorem c27 (hc2 : PrC cs2 off2 m pr) (hm : m ≤ 1000) : LL.run 27 [stV 0 off2 m c2] [.cells cs2 2 true own2] = some ⟨wh 1 m, [pI pr m], []⟩ := by
  refine go (by decide) ?_
  rw [run27 _ _ _ (by simp)]
  have this := l27 off2 m c2 cs2 own2 pr hc2 hm m 0 (by omega)
  simp only [Int.natCast_zero, pI, List.range_zero, List.flatMap_nil] at this ⊢
  simp (maxSteps := 1000000) (disch := first | omega | decide | assumption | simp [scal]) [lenA_sl lk_41, o_indexAddrS es_41, loadA_eq ia_95, o_indexAddrS es_46, ze_46, o_buildSlice es_46 ze_46 (by decide) ba_46_1, ap_46, builtin_append ni_46, this]
end
noncomputable def prsR (r f : Int) (n : Nat) (l : Nat → Ab) : List (Nat × Nat) := if chkS r f n l = 0 then fewS r f l n else []
theorem c24 (r f : Int) (off n c : Nat) {cs : List Value} {own : Bool} {l : Nat → Ab} (hc : AbC cs off n l) (hnc : n ≤ c) : LL.run 24 [shV r f 0 off n c] [.cells cs 3 true own] = some ⟨.tuple #[wh 1 (prsR r f n l).length, iv (chkS r f n l)], [prB (prsR r f n l)], []⟩ := by
  refine go (by decide) ?_
  rw [run24 _ _ _ (by simp)]
  have a1 := fun bx => k22 r f 0 off n c (h := .cells cs 3 true own :: bx) l rfl hc
  unfold prsR
  by_cases h : chkS r f n l = 0
  · rw [if_pos h]
    have S := chkS_zero h
    have a2 := k50 r f off n c (own := own) S hc hnc
    simp only [prB] at a2 ⊢
    simp (maxSteps := 1000000) (disch := first | omega | decide | assumption | simp [scal]) [loadA_eq ia_24, a1, a2, h]
  · rw [if_neg h]
    simp only [prB]
    simp (maxSteps := 1000000) (disch := first | omega | decide | assumption | simp [scal]) [loadA_eq ia_24, a1, h]
section
variable (r f : Int) (b off n c b2 off2 m c2 : Nat) {cs cs2 : List Value} {own own2 : Bool} {l : Nat → Ab} {pr : Nat → Int × Int} {h : List Blk}
theorem k24 (hb : h[b]? = some (.cells cs 3 true own)) (hc : AbC cs off n l) (hnc : n ≤ c) : callH LL 24 [shV r f b off n c] h = some ⟨.tuple #[wh h.length (prsR r f n l).length, iv (chkS r f n l)], h ++ [prB (prsR r f n l)], [b], []⟩ :=
  callN_1 rfl hb noIdB_flat (sh_ren r f b off n c) (c24 r f off n c (own := own) hc hnc) (by intro b hb; simp at hb; subst hb; exact prB_noId) (by simp [renV, dep, nblt, optAll])
theorem k25 (hb : h[b]? = some (.cells cs 3 true own)) (hb2 : h[b2]? = some (.cells cs2 2 true own2)) (hne : b ≠ b2) (hc : AbC cs off n l) (hc2 : PrC cs2 off2 m pr) (hm : m ≤ 1000) :
    callH LL 25 [shV r f b off n c, stV b2 off2 m c2] h = some ⟨iv (verS r f n l m pr), h, [b, b2], []⟩ :=
  callH_2 rfl hb hb2 hne noIdB_flat noIdB_flat (ss_ren r f b off n c b2 off2 m c2 hne) (c25 r f off n c off2 m c2 cs cs2 own own2 l pr hc hc2 hm) fun _ => rfl
theorem k26 (hb : h[b]? = some (.cells cs 3 true own)) (hb2 : h[b2]? = some (.cells cs2 2 true own2)) (hne : b ≠ b2) (hc : AbC cs off n l) (hc2 : PrC cs2 off2 m pr) (hm : m ≤ 1000) :
    callH LL 26 [shV r f b off n c, stV b2 off2 m c2] h = some ⟨iv (verS r f n l m pr), h, [b, b2], []⟩ :=
  callH_2 rfl hb hb2 hne noIdB_flat noIdB_flat (ss_ren r f b off n c b2 off2 m c2 hne) (c26 r f off n c off2 m c2 cs cs2 own own2 l pr hc hc2 hm) fun _ => rfl
theorem k27 (hb : h[b2]? = some (.cells cs2 2 true own2)) (hc2 : PrC cs2 off2 m pr) (hm : m ≤ 1000) : callH LL 27 [stV b2 off2 m c2] h = some ⟨wh h.length m, h ++ [pI pr m], [b2], []⟩ :=
  callN_1 rfl hb noIdB_flat (args' := [stV 0 off2 m c2]) (by simp [renV, dep, optAll, idx, nbeq]) (c27 off2 m c2 cs2 own2 pr hc2 hm) (by intro b hb; simp at hb; subst hb; exact noIdB_flat) (by simp [renV, dep, nblt, optAll])
end
end Go.Proofs.Ytiafgimgcbmgaaa.bl

namespace Go.Proofs.Ytiafgimgcbmgaaa.bl
open Go.GE
set_option linter.unusedVariables false
set_option linter.unusedSimpArgs false
set_option maxRecDepth 100000
set_option maxHeartbeats 4000000
attribute [local simp] runOps_nil runOps_cons runOpsF_nil runOpsF_cons fstS_some fstF_some opStep_eq want_none oStep_true oStep_false fin_pure fin_read fin_alloc fin_write storeB wrN cellV addWr o_move o_assign o_pick o_alloc o_box o_load o_store o_nilCheck o_bin o_un o_extract o_callV o_callB o_callI callV_f callV_y callV_fc o_makeFunc partsA Instr.fill builtin_len builtin_max2 bin_add bin_sub bin_mul bin_quo bin_rem bin_lss bin_leq bin_gtr bin_geq bin_eql bin_neq un_neg un_not bin_shr bin_shl wrap_u64_id opd opds optAll putO nbeq nblt constOk isC ops sub cl cr co bodyOf thenS_normal thenS_ret thenS_exit thenS_goto afterN_normal afterN_ret afterN_exit afterN_goto condS_true condS_false blockS_normal blockS_ret blockS_exit blockS_goto headS normS normK_eq fixS_nil fixS_cons fix1 fixV emptyB keepO_nil keepO_cons roundC_normal roundC_exit roundC_ret roundC_goto sweep_eq sweepD rnm pickR pickW rootsB ptrT renT ptrFn renFn ptrB_flat ptrB_non renB_flat renB_non plainS_some drawS_some fpsOk disj unord range' dropTo enumT undef wrap_i64_id Value.cells mkCells ptrTo scal cellsAt rdN endS_ret resultsA Option.bind_some tupV finish reachN dep ptrL_eq ptrL renL_eq renL ptrV_bool ptrV_int ptrV_string ptrV_nilFunc ptrV_nilIface ptrV_nilPtr ptrV_ptr ptrV_nilSl ptrV_sl ptrV_iface ptrV_agg ptrV_tuple ptrV_func renV_bool renV_int renV_string renV_nilFunc renV_nilIface renV_nilPtr renV_ptr renV_nilSl renV_sl renV_iface renV_agg renV_tuple renV_func gotoS_goto gotoS_normal gotoS_exit gotoS_ret skip_seq sliceE bnd bndHi intOf optOpd keepT_nil keepT_cons keepC_t keepC_f lk_nil lk_cons lkC_t lkC_f has_nil has_cons hasC_t hasC_f rep_nil rep_cons repC_t repC_f put_eq putC_t putC_f mem_nil mem_cons memC_t memC_f idx_nil idx_cons idxC_t idxC_f reach_nil reach_cons reachC_t reachC_f
attribute [local simp] n4_1s n4_4s n4_7s n4_8s n4_6s n4_9s n4_5s n4_3s n4_11s n4_13s n4_15s n4_18s n4_21s n4_22s n4_20s n4_23s n4_19s n4_17s n4_26s n4_29s n4_30s n4_28s n4_31s n4_27s n4_25s n4_33s n4_34s n4_32s n4_24s n4_16s n4_14s n4_12s n4_10s n4_2s n4_0s Try.f4
def prAt (a : List (Nat × Nat)) (i : Nat) : Int × Int := match a[i]? with
  | some q => (q.1, q.2)
  | none => (0, 0)
theorem prAt_C (a : List (Nat × Nat)) : PrC (a.flatMap prG) 0 a.length (prAt a) := by
  intro i hi
  have h : a[i]? = some a[i] := List.getElem?_eq_getElem hi
  have := prG_get h
  simp only [prAt, h, Nat.zero_add]
  exact this
structure GoodP (r f : Int) (l : Nat → Ab) (n : Nat) (a : List (Nat × Nat)) (first : Nat) : Prop where
  mem : ∀ q, q ∈ a → q.1 < q.2 ∧ q.2 < n ∧ needS r f (l q.1) (l q.2) = true
  chain : ∀ (i : Nat) p q, a[i]? = some p → a[i + 1]? = some q → p.2 ≤ q.1
  last : ∀ (i : Nat) p, a[i]? = some p → i + 1 = a.length → p.2 ≤ first
theorem fewL_good {r f : Int} {l : Nat → Ab} {n : Nat} : ∀ q k first (a : List (Nat × Nat)), k + q = n → first ≤ k → GoodP r f l n a first → ∃ last, GoodP r f l n (fewL r f l q k first a) last := by
  intro q
  induction q with
  | zero => intro k first a hk hf ha; exact ⟨first, ha⟩
  | succ q ih =>
    intro k first a hk hf ha
    simp only [fewL]
    rcases findL_spec (P := fun i => needS r f (l (first + i)) (l k)) (k - first) 0 with ⟨w, _⟩ | ⟨j, w, _, w2, w3, _⟩
    · rw [if_pos w]; exact ih _ _ _ (by omega) (by omega) ha
    · rw [if_neg (by rw [w]; omega), w]
      refine ih _ _ _ (by omega) (by omega) ⟨fun q hq => ?_, fun i p q hp hq => ?_, fun i p hp hi => ?_⟩
      · rw [List.mem_append, List.mem_singleton] at hq
        rcases hq with hq | rfl
        · exact ha.mem q hq
        · simp only [Int.toNat_natCast]; exact ⟨by omega, by omega, w3⟩
      · by_cases h1 : i + 1 < a.length
        · rw [List.getElem?_append_left (by omega)] at hp
          rw [List.getElem?_append_left h1] at hq
          exact ha.chain i p q hp hq
        · rw [List.getElem?_append_right (by omega)] at hq
          have hlt := (List.getElem?_eq_some_iff.1 hq).1
          simp at hlt
          have e : i + 1 - a.length = 0 := by omega
          rw [e] at hq
          simp at hq
          subst hq
          rw [List.getElem?_append_left (by omega)] at hp
          have := ha.last i p hp (by omega)
          simp only; omega
      · simp at hi
        rw [List.getElem?_append_right (by omega)] at hp
        have e : i - a.length = 0 := by omega
        rw [e] at hp
        simp at hp
        subst hp
        exact Nat.le_refl _
theorem ver_few {r f : Int} {l : Nat → Ab} {n : Nat} : verL r f n l (prAt (fewS r f l n)) (fewS r f l n).length 0 0 = 0 := by
  obtain ⟨last, G⟩ := fewL_good (r := r) (f := f) (l := l) (n := n) n 0 0 [] (by omega) (by omega) ⟨by simp, by simp, by simp⟩
  rw [← fewS] at G
  generalize fewS r f l n = a at *
  have key : ∀ k i, i + k = a.length → verL r f n l (prAt a) k i (lastP (prAt a) i) = 0 := by
    intro k
    induction k with
    | zero => intro i _; rfl
    | succ k ih =>
      intro i hi
      have hi' : i < a.length := by omega
      have hq : a[i]? = some a[i] := List.getElem?_eq_getElem hi'
      obtain ⟨g1, g2, g3⟩ := G.mem _ (List.getElem_mem hi')
      have hp : prAt a i = ((a[i].1 : Int), (a[i].2 : Int)) := by simp [prAt, hq]
      have hl : lastP (prAt a) i ≤ a[i].1 := by
        unfold lastP
        split
        · omega
        · rename_i h0
          obtain ⟨j, rfl⟩ : ∃ j, i = j + 1 := ⟨i - 1, by omega⟩
          have hj : a[j]? = some a[j] := List.getElem?_eq_getElem (by omega)
          have := G.chain j _ _ hj hq
          simp only [Nat.add_sub_cancel, prAt, hj]
          omega
      have hn := ih (i + 1) (by omega)
      have el : lastP (prAt a) (i + 1) = (prAt a i).2 := by simp [lastP]
      rw [el] at hn
      unfold verL
      rw [hp] at hn ⊢
      simp only [Int.toNat_natCast] at hn ⊢
      generalize a[i] = p at *
      have c1 : ((decide (0 ≤ (p.1 : Int)) && decide ((p.1 : Int) ≤ (n : Int) - 1)) && (decide (0 ≤ (p.2 : Int)) && decide ((p.2 : Int) ≤ (n : Int) - 1))) = true := by
        simp only [Bool.and_eq_true, decide_eq_true_eq]; omega
      have c2 : (decide ((p.2 : Int) ≤ p.1) || decide ((p.1 : Int) < lastP (prAt a) i)) = false := by
        simp only [Bool.or_eq_false_iff, decide_eq_false_iff_not]; omega
      rw [c1, c2, g3]
      simpa using hn
  exact key a.length 0 (by omega)
section
variable (r f : Int) (off n c off2 m c2 : Nat) {cs cs2 : List Value} {own own2 : Bool} {l : Nat → Ab} {pr : Nat → Int × Int}
theorem c4 (hc : AbC cs off n l) (hnc : n ≤ c) (hc2 : PrC cs2 off2 m pr) : LL.run 4 [shV r f 0 off n c, stV 1 off2 m c2] [.cells cs 3 true own, .cells cs2 2 true own2] = some ⟨.bool true, [], []⟩ := by
  refine go (by decide) ?_
  rw [run4 _ _ _ (by simp)]
  by_cases h1 : 60 < n
  · have h1' : (60 : Int) < n := by omega
    simp (maxSteps := 1000000) (disch := first | omega | decide | assumption | simp [scal]) [o_fieldAddr fa_24_2 (by decide), loadA_eq ia_22, lenA_sl lk_22, lenA_sl lk_41, loadA_eq ia_24, za_29, sz_29, loadA_eq ia_29, lenA_sl lk_25, want_some q4_4g4, want_some q4_18g3, want_some q4_29g3, want_some q4_33g5, want_some q4_33g12, k15, h1, h1']
  have h1' : ¬ (60 : Int) < n := by omega
  by_cases h2 : 60 < m
  · have h2' : (60 : Int) < m := by omega
    simp (maxSteps := 1000000) (disch := first | omega | decide | assumption | simp [scal]) [o_fieldAddr fa_24_2 (by decide), loadA_eq ia_22, lenA_sl lk_22, lenA_sl lk_41, loadA_eq ia_24, za_29, sz_29, loadA_eq ia_29, lenA_sl lk_25, want_some q4_4g4, want_some q4_18g3, want_some q4_29g3, want_some q4_33g5, want_some q4_33g12, k15, h1, h1', h2, h2']
  have h2' : ¬ (60 : Int) < m := by omega
  have a0 := fun bx => k16 r f 0 off n c (l := l) (h := .cells cs 3 true own :: bx) rfl hc (by omega)
  have a1 := fun bx => k24 r f 0 off n c (l := l) (h := .cells cs 3 true own :: bx) rfl hc hnc
  have hA := abL_C l n
  have a2 := fun b1 b2 b3 bx => k18 r f 3 0 n n (l := l) (h := b1 :: b2 :: b3 :: abL l n :: bx) (own := true) rfl hA
  have a3 := fun bx => k25 r f 0 off n c 1 off2 m c2 (pr := pr) (h := .cells cs 3 true own :: .cells cs2 2 true own2 :: bx) rfl rfl (by decide) hc hc2 (by omega)
  have a4 := fun b0 bx => k27 1 off2 m c2 (pr := pr) (h := b0 :: .cells cs2 2 true own2 :: bx) rfl hc2 (by omega)
  have a5 := fun b0 b1 b2 b4 b5 b6 bx => k26 r f 3 0 n n 7 0 m m (l := l) (pr := pr) (h := b0 :: b1 :: b2 :: abL l n :: b4 :: b5 :: b6 :: pI pr m :: bx) (own := true) (own2 := true) rfl rfl (by decide) hA (pI_C pr m) (by omega)
  by_cases h3 : chkS r f n l = 0
  · have hp : prsR r f n l = fewS r f l n := by unfold prsR; rw [if_pos h3]
    have hq : fewR r f n l = stpsOf l (fewS r f l n) := by unfold fewR; rw [if_pos h3]
    have hl : (stpsOf l (fewS r f l n)).length = (fewS r f l n).length := by simp [stpsOf]
    have hle := fewS_len (r := r) (f := f) (l := l) (n := n)
    have hv : verS r f n l (fewS r f l n).length (prAt (fewS r f l n)) = 0 := by unfold verS; rw [if_neg (by simp [h3])]; exact ver_few
    have a6 := fun b0 b1 b2 b3 b4 bx => k27 5 0 (fewS r f l n).length (fewS r f l n).length (pr := prAt (fewS r f l n)) (h := b0 :: b1 :: b2 :: b3 :: b4 :: prB (fewS r f l n) :: bx) (own2 := true) rfl (prAt_C _) (by omega)
    have a7 := fun b0 b1 b2 b4 b5 b6 b7 bx => k26 r f 3 0 n n 8 0 (fewS r f l n).length (fewS r f l n).length (l := l) (pr := prAt (fewS r f l n)) (h := b0 :: b1 :: b2 :: abL l n :: b4 :: b5 :: b6 :: b7 :: pI (prAt (fewS r f l n)) (fewS r f l n).length :: bx) (own := true) (own2 := true) rfl rfl (by decide) hA (pI_C _ _) (by omega)
    rw [hv] at a7
    rw [hp] at a1
    rw [hq, hl] at a2
    simp only [abL, iB, prB, pI] at a0 a1 a2 a4 a5 a6 a7
    simp (maxSteps := 1000000) (disch := first | omega | decide | assumption | simp [scal]) [o_fieldAddr fa_24_2 (by decide), loadA_eq ia_22, lenA_sl lk_22, lenA_sl lk_41, loadA_eq ia_24, za_29, sz_29, loadA_eq ia_29, lenA_sl lk_25, want_some q4_4g4, want_some q4_18g3, want_some q4_29g3, want_some q4_33g5, want_some q4_33g12, k15, h1, h1', h2, h2', a0, a1, a2, a3, a4, a5, a6, a7, h3]
  · have hp : prsR r f n l = [] := by unfold prsR; rw [if_neg h3]
    have hq : fewR r f n l = [] := by unfold fewR; rw [if_neg h3]
    rw [hp] at a1
    rw [hq] at a2
    simp only [abL, iB, prB, pI] at a0 a1 a2 a4 a5
    simp (maxSteps := 1000000) (disch := first | omega | decide | assumption | simp [scal]) [o_fieldAddr fa_24_2 (by decide), loadA_eq ia_22, lenA_sl lk_22, lenA_sl lk_41, loadA_eq ia_24, za_29, sz_29, loadA_eq ia_29, lenA_sl lk_25, want_some q4_4g4, want_some q4_18g3, want_some q4_29g3, want_some q4_33g5, want_some q4_33g12, k15, h1, h1', h2, h2', a0, a1, a2, a3, a4, a5, h3]
end
section
open Go.ChangeShapes Go.WideShapes Go.RowKit
variable {H : Type} {enc : TypeId × Value → H} {W : World} {base b0 : Nat} {v : Value} {d : DataW H} {p : List MemPlace}
def prOf (zs : List (List Int)) (i : Nat) : Int × Int := ((zs.getD i []).getD 0 0, (zs.getD i []).getD 1 0)
theorem pr_flat {zs : List (List Int)} (h : ∀ z ∈ zs, wfs [.i64, .i64] z) : PrC (zs.flatMap (ints [.i64, .i64])) 0 zs.length (prOf zs) := by
  have e : zs.flatMap (ints [.i64, .i64]) = zs.flatMap fun z => pG (z.getD 0 0, z.getD 1 0) := by
    induction zs with
    | nil => rfl
    | cons z zs ih =>
      have h1 := (h z (by simp)).1
      match z, h1 with
      | [a, b], _ => rw [List.flatMap_cons, List.flatMap_cons, ih fun z hz => h z (by simp [hz])]; rfl
  rw [e]
  intro i hi
  have hz : zs[i]? = some (zs.getD i []) := by simp [hi]
  refine ⟨?_, ?_⟩
  · have := flat_get (g := fun z : List Int => pG (z.getD 0 0, z.getD 1 0)) (k := 2) (fun _ => rfl) hz (j := 0) (by omega); simpa [pG, prOf] using this
  · have := flat_get (g := fun z : List Int => pG (z.getD 0 0, z.getD 1 0)) (k := 2) (fun _ => rfl) hz (j := 1) (by omega); simpa [pG, prOf] using this
/-- pairs as they are handed over -/
theorem open_pairs (hv : Value.okWide Try.prog W .any b0 41 v) (hd : DataW.Trod enc Try.prog W base (fun _ => true) true 41 v d p) :
    ∃ (zs : List (List Int)) (mb : Option MB), WinO W mb (.cells (zs.flatMap (ints [.i64, .i64])) 2 true false) ∧ (∀ (m : Mp) b, m b = mb → VR m (stV b 0 zs.length zs.length) v) ∧ PrC (zs.flatMap (ints [.i64, .i64])) 0 zs.length (prOf zs) := by
  obtain ⟨zs, mb, hw, hvr, hz, _⟩ := open_param_flat (ks := [.i64, .i64]) (d := 4) Try.underlying41 (by kernel_rfl) (by kernel_rfl) (by decide) hv hd
  exact ⟨zs, mb, hw, hvr, pr_flat hz⟩
end
end Go.Proofs.Ytiafgimgcbmgaaa.bl

