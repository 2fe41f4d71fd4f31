/-
  Contracts of functions of the program at the limit evaluator. No condition.
-/
import Derived.Test.YtiafgimgcbmgaaaRFN
import Derived.OpenShut
import Derived.Test.YtiafgimgcbmgaaaE28
import Derived.Test.YtiafgimgcbmgaaaE38
import Derived.Test.YtiafgimgcbmgaaaE39
import Derived.Test.YtiafgimgcbmgaaaE40
namespace Go.Proofs.Ytiafgimgcbmgaaa.bl
open Go.GE
set_option linter.unusedVariables false
set_option linter.unusedSimpArgs false
set_option maxRecDepth 100000
set_option maxHeartbeats 4000000
attribute [local simp] runOps_nil runOps_cons runOpsF_nil runOpsF_cons fstS_some fstF_some opStep_eq want_none oStep_true oStep_false fin_pure fin_read fin_alloc fin_write storeB wrN cellV addWr o_move o_assign o_pick o_alloc o_box o_load o_store o_nilCheck o_bin o_un o_extract o_callV o_callB o_callI callV_f callV_y callV_fc o_makeFunc partsA Instr.fill builtin_len builtin_max2 bin_add bin_sub bin_mul bin_quo bin_rem bin_lss bin_leq bin_gtr bin_geq bin_eql bin_neq un_neg un_not bin_shr bin_shl wrap_u64_id opd opds optAll putO nbeq nblt constOk isC ops sub cl cr co bodyOf thenS_normal thenS_ret thenS_exit thenS_goto afterN_normal afterN_ret afterN_exit afterN_goto condS_true condS_false blockS_normal blockS_ret blockS_exit blockS_goto headS normS normK_eq fixS_nil fixS_cons fix1 fixV emptyB keepO_nil keepO_cons roundC_normal roundC_exit roundC_ret roundC_goto sweep_eq sweepD rnm pickR pickW rootsB ptrT renT ptrFn renFn ptrB_flat ptrB_non renB_flat renB_non plainS_some drawS_some fpsOk disj unord range' dropTo enumT undef wrap_i64_id Value.cells mkCells ptrTo scal cellsAt rdN endS_ret resultsA Option.bind_some tupV finish reachN dep ptrL_eq ptrL renL_eq renL ptrV_bool ptrV_int ptrV_string ptrV_nilFunc ptrV_nilIface ptrV_nilPtr ptrV_ptr ptrV_nilSl ptrV_sl ptrV_iface ptrV_agg ptrV_tuple ptrV_func renV_bool renV_int renV_string renV_nilFunc renV_nilIface renV_nilPtr renV_ptr renV_nilSl renV_sl renV_iface renV_agg renV_tuple renV_func gotoS_goto gotoS_normal gotoS_exit gotoS_ret skip_seq sliceE bnd bndHi intOf optOpd keepT_nil keepT_cons keepC_t keepC_f lk_nil lk_cons lkC_t lkC_f has_nil has_cons hasC_t hasC_f rep_nil rep_cons repC_t repC_f put_eq putC_t putC_f mem_nil mem_cons memC_t memC_f idx_nil idx_cons idxC_t idxC_f reach_nil reach_cons reachC_t reachC_f
attribute [local simp] n56_1s n56_3s n56_4s n56_2s n56_0s Try.f56 n57_1s n57_3s n57_4s n57_2s n57_0s Try.f57
theorem other {f : FuncId} (hf : (15 : Nat) ≠ f) (a : List Value) (h : List Blk) : (wk.wtab.keep kpT).run f a h = none := by
  show GE.tabR [wk.ew] f a h = none
  have : Nat.beq wk.ew.f f = false := GE.beq_false.2 hf
  simp only [tabR, this, Bool.false_and, cond_false]
theorem go {f : FuncId} {args : List Value} {h : List Blk} {r : RR} (hf : (15 : Nat) ≠ f) (he : runB Try.prog LL f args h = some r) : LL.run f args h = some r := L_run (other hf _ _) he
/-- an absolute -/
structure Ab where
  h : Int
  lo : Int
  hi : Int
abbrev abV (a : Ab) : Value := .agg #[iv a.h, iv a.lo, iv a.hi]
abbrev shV (r f : Int) (b off n c : Nat) : Value := .agg #[iv r, iv f, .slice (some ⟨b, off, none⟩) n c]
/-- cells of absolutes -/
def AbC (cs : List Value) (off n : Nat) (l : Nat → Ab) : Prop := ∀ i, i < n → cs[off + i * 3]? = some (iv (l i).h) ∧ cs[off + i * 3 + 1]? = some (iv (l i).lo) ∧ cs[off + i * 3 + 2]? = some (iv (l i).hi)
theorem k56 (a b c : Int) (h : List Blk) : callH LL 56 [iv a, iv b, iv c] h = some ⟨.bool (decide (a ≤ b) && decide (b ≤ c)), h, [], []⟩ := by
  refine callH_plain (go (by decide) ?_) rfl rfl
  rw [run56 _ _ _ (by simp)]
  by_cases h1 : a ≤ b <;> by_cases h2 : b ≤ c <;>
  simp (maxSteps := 1000000) (disch := first | omega | decide | assumption | simp [scal]) [want_some q56_3g3, h1, h2]
def goodA (a : Ab) : Bool := (decide (0 ≤ a.h) && decide (a.h ≤ 10000)) && ((decide (-1000000 ≤ a.lo) && decide (a.lo ≤ a.hi)) && decide (a.hi ≤ 1000000))
theorem k57 (a : Ab) (h : List Blk) : callH LL 57 [abV a] h = some ⟨.bool (goodA a), h, [], []⟩ := by
  obtain ⟨x, y, z⟩ := a
  refine callH_none rfl (fun _ => rfl) (go (by decide) ?_) fun _ => rfl
  rw [run57 _ _ _ (by simp)]
  cases h1 : (decide (0 ≤ x) && decide (x ≤ 10000)) <;> cases h2 : (decide (-1000000 ≤ y) && decide (y ≤ z)) <;>
  simp (maxSteps := 1000000) (disch := first | omega | decide | assumption | simp [scal]) [o_fieldAddr fa_59_0 (by decide), loadA_eq ia_3, o_fieldAddr fa_59_1 (by decide), o_fieldAddr fa_57_0 (by decide), o_fieldAddr fa_57_1 (by decide), want_some q57_3g3, want_some q57_3g12, h1, h2, k56, goodA]
end Go.Proofs.Ytiafgimgcbmgaaa.bl
namespace Go.Proofs.Ytiafgimgcbmgaaa.bl
open Go.GE
set_option linter.unusedVariables false
set_option linter.unusedSimpArgs false
set_option maxRecDepth 100000
set_option maxHeartbeats 4000000
attribute [local simp] runOps_nil runOps_cons runOpsF_nil runOpsF_cons fstS_some fstF_some opStep_eq want_none oStep_true oStep_false fin_pure fin_read fin_alloc fin_write storeB wrN cellV addWr o_move o_assign o_pick o_alloc o_box o_load o_store o_nilCheck o_bin o_un o_extract o_callV o_callB o_callI callV_f callV_y callV_fc o_makeFunc partsA Instr.fill builtin_len builtin_max2 bin_add bin_sub bin_mul bin_quo bin_rem bin_lss bin_leq bin_gtr bin_geq bin_eql bin_neq un_neg un_not bin_shr bin_shl wrap_u64_id opd opds optAll putO nbeq nblt constOk isC ops sub cl cr co bodyOf thenS_normal thenS_ret thenS_exit thenS_goto afterN_normal afterN_ret afterN_exit afterN_goto condS_true condS_false blockS_normal blockS_ret blockS_exit blockS_goto headS normS normK_eq fixS_nil fixS_cons fix1 fixV emptyB keepO_nil keepO_cons roundC_normal roundC_exit roundC_ret roundC_goto sweep_eq sweepD rnm pickR pickW rootsB ptrT renT ptrFn renFn ptrB_flat ptrB_non renB_flat renB_non plainS_some drawS_some fpsOk disj unord range' dropTo enumT undef wrap_i64_id Value.cells mkCells ptrTo scal cellsAt rdN endS_ret resultsA Option.bind_some tupV finish reachN dep ptrL_eq ptrL renL_eq renL ptrV_bool ptrV_int ptrV_string ptrV_nilFunc ptrV_nilIface ptrV_nilPtr ptrV_ptr ptrV_nilSl ptrV_sl ptrV_iface ptrV_agg ptrV_tuple ptrV_func renV_bool renV_int renV_string renV_nilFunc renV_nilIface renV_nilPtr renV_ptr renV_nilSl renV_sl renV_iface renV_agg renV_tuple renV_func gotoS_goto gotoS_normal gotoS_exit gotoS_ret skip_seq sliceE bnd bndHi intOf optOpd keepT_nil keepT_cons keepC_t keepC_f lk_nil lk_cons lkC_t lkC_f has_nil has_cons hasC_t hasC_f rep_nil rep_cons repC_t repC_f put_eq putC_t putC_f mem_nil mem_cons memC_t memC_f idx_nil idx_cons idxC_t idxC_f reach_nil reach_cons reachC_t reachC_f
attribute [local simp] n22_1s n22_5s n22_8s n22_9s n22_7s n22_11s n22_14s n22_15s n22_13s n22_17s n22_20s n22_21s n22_19s n22_22s n22_18s n22_16s n22_12s n22_10s n22_6s n22_4s n22_3s n22_24s n22_27s n22_31s n22_34s n22_35s n22_33s n22_39s n22_43s n22_46s n22_47s n22_45s n22_49s n22_52s n22_53s n22_51s n22_54s n22_50s n22_48s n22_44s n22_42s n22_41s n22_55s n22_40s n22_38s n22_37s n22_56s n22_36s n22_32s n22_30s n22_29s n22_29g n22_28s n22_26s n22_58s n22_59s n22_57s n22_25s n22_23s n22_2s n22_0s Try.f22
def chkL (l : Nat → Ab) : Nat → Nat → Int → Int
  | 0, _, _ => 0
  | k + 1, i, last => if goodA (l i) = false then 1 else if (l i).h ≤ last then 5 else chkL l k (i + 1) (l i).h
noncomputable def chkS (r f : Int) (n : Nat) (l : Nat → Ab) : Int :=
  if ((decide (0 ≤ r) && decide (r ≤ 1000)) && (decide (0 ≤ f) && decide (f ≤ 1000))) = false then 1 else if n = 0 then 2 else if 40 < n then 3 else chkL l n 0 (-1)
section
variable (r f : Int) (off n c : Nat) (cs : List Value) (own : Bool) (l : Nat → Ab)
theorem l22 (hc : AbC cs off n l) (hn : n ≤ 40) : ∀ k (i : Nat) last, i + k = n →
    lpB Try.prog LL ⟨22, 46, 1, none⟩ n22_29 n22_30 ⟨[(3, iv last), (28, .slice (some ⟨0, off, none⟩) n c), (29, iv n), (30, iv i)], [.cells cs 3 true own], []⟩ =
      if chkL l k i last = 0 then some (.exit 1, ⟨[], [.cells cs 3 true own], []⟩) else some (.ret, ⟨[(2, iv (chkL l k i last))], [.cells cs 3 true own], []⟩) := by
  intro k
  induction k with
  | zero =>
    intro i last hi
    obtain rfl : i = n := by omega
    rw [lpB_eq]
    simp (maxSteps := 1000000) (disch := first | omega | decide | assumption | simp [scal]) [o_fieldAddr fa_24_0 (by decide), loadA_eq ia_3, o_fieldAddr fa_24_1 (by decide), o_fieldAddr fa_24_2 (by decide), loadA_eq ia_22, lenA_sl lk_22, o_indexAddrS es_22, loadA_eq ia_59, za_59, sz_59, o_fieldAddr fa_59_0 (by decide), want_some q22_5g4, chkL]
  | succ k ih =>
    intro i last hi
    have e1 : i < n := by omega
    have this := ih (i + 1) (l i).h (by omega)
    obtain ⟨e2, e3, e4⟩ := hc i e1
    have e5 := fun h => k57 (l i) h
    have e6 : (i : Int) < n := by omega
    rw [lpB_eq]
    simp only [cast1] at this
    cases h1 : goodA (l i)
    · simp (maxSteps := 1000000) (disch := first | omega | decide | assumption | simp [scal]) [o_fieldAddr fa_24_0 (by decide), loadA_eq ia_3, o_fieldAddr fa_24_1 (by decide), o_fieldAddr fa_24_2 (by decide), loadA_eq ia_22, lenA_sl lk_22, o_indexAddrS es_22, loadA_eq ia_59, za_59, sz_59, o_fieldAddr fa_59_0 (by decide), want_some q22_5g4, chkL, e1, e2, e3, e4, e5, e6, h1]
    · by_cases h2 : (l i).h ≤ last
      · simp (maxSteps := 1000000) (disch := first | omega | decide | assumption | simp [scal]) [o_fieldAddr fa_24_0 (by decide), loadA_eq ia_3, o_fieldAddr fa_24_1 (by decide), o_fieldAddr fa_24_2 (by decide), loadA_eq ia_22, lenA_sl lk_22, o_indexAddrS es_22, loadA_eq ia_59, za_59, sz_59, o_fieldAddr fa_59_0 (by decide), want_some q22_5g4, chkL, e1, e2, e3, e4, e5, e6, h1, h2]
      · simp (maxSteps := 1000000) (disch := first | omega | decide | assumption | simp [scal]) [o_fieldAddr fa_24_0 (by decide), loadA_eq ia_3, o_fieldAddr fa_24_1 (by decide), o_fieldAddr fa_24_2 (by decide), loadA_eq ia_22, lenA_sl lk_22, o_indexAddrS es_22, loadA_eq ia_59, za_59, sz_59, o_fieldAddr fa_59_0 (by decide), want_some q22_5g4, chkL, e1, e2, e3, e4, e5, e6, h1, h2, this]
theorem c22 (hc : AbC cs off n l) : LL.run 22 [shV r f 0 off n c] [.cells cs 3 true own] = some ⟨iv (chkS r f n l), [], []⟩ := by
  refine go (by decide) ?_
  rw [run22 _ _ _ (by simp)]
  unfold chkS
  cases h1 : (decide (0 ≤ r) && decide (r ≤ 1000))
  · simp (maxSteps := 1000000) (disch := first | omega | decide | assumption | simp [scal]) [o_fieldAddr fa_24_0 (by decide), loadA_eq ia_3, o_fieldAddr fa_24_1 (by decide), o_fieldAddr fa_24_2 (by decide), loadA_eq ia_22, lenA_sl lk_22, o_indexAddrS es_22, loadA_eq ia_59, za_59, sz_59, o_fieldAddr fa_59_0 (by decide), want_some q22_5g4, k56, h1]
  cases h2 : (decide (0 ≤ f) && decide (f ≤ 1000))
  · simp (maxSteps := 1000000) (disch := first | omega | decide | assumption | simp [scal]) [o_fieldAddr fa_24_0 (by decide), loadA_eq ia_3, o_fieldAddr fa_24_1 (by decide), o_fieldAddr fa_24_2 (by decide), loadA_eq ia_22, lenA_sl lk_22, o_indexAddrS es_22, loadA_eq ia_59, za_59, sz_59, o_fieldAddr fa_59_0 (by decide), want_some q22_5g4, k56, h1, h2]
  by_cases h3 : n = 0
  · subst h3
    simp (maxSteps := 1000000) (disch := first | omega | decide | assumption | simp [scal]) [o_fieldAddr fa_24_0 (by decide), loadA_eq ia_3, o_fieldAddr fa_24_1 (by decide), o_fieldAddr fa_24_2 (by decide), loadA_eq ia_22, lenA_sl lk_22, o_indexAddrS es_22, loadA_eq ia_59, za_59, sz_59, o_fieldAddr fa_59_0 (by decide), want_some q22_5g4, k56, h1, h2]
  have h3' : ¬ (n : Int) = 0 := by omega
  by_cases h4 : 40 < n
  · have h4' : (40 : Int) < n := by omega
    simp (maxSteps := 1000000) (disch := first | omega | decide | assumption | simp [scal]) [o_fieldAddr fa_24_0 (by decide), loadA_eq ia_3, o_fieldAddr fa_24_1 (by decide), o_fieldAddr fa_24_2 (by decide), loadA_eq ia_22, lenA_sl lk_22, o_indexAddrS es_22, loadA_eq ia_59, za_59, sz_59, o_fieldAddr fa_59_0 (by decide), want_some q22_5g4, k56, h1, h2, h3, h3', h4, h4']
  have h4' : ¬ (40 : Int) < n := by omega
  have this := l22 off n c cs own l hc (by omega) n 0 (-1) (by omega)
  simp only [Int.natCast_zero] at this
  by_cases h5 : chkL l n 0 (-1) = 0
  · rw [if_pos h5] at this
    simp (maxSteps := 1000000) (disch := first | omega | decide | assumption | simp [scal]) [o_fieldAddr fa_24_0 (by decide), loadA_eq ia_3, o_fieldAddr fa_24_1 (by decide), o_fieldAddr fa_24_2 (by decide), loadA_eq ia_22, lenA_sl lk_22, o_indexAddrS es_22, loadA_eq ia_59, za_59, sz_59, o_fieldAddr fa_59_0 (by decide), want_some q22_5g4, k56, h1, h2, h3, h3', h4, h4', this, h5]
  · rw [if_neg h5] at this
    simp (maxSteps := 1000000) (disch := first | omega | decide | assumption | simp [scal]) [o_fieldAddr fa_24_0 (by decide), loadA_eq ia_3, o_fieldAddr fa_24_1 (by decide), o_fieldAddr fa_24_2 (by decide), loadA_eq ia_22, lenA_sl lk_22, o_indexAddrS es_22, loadA_eq ia_59, za_59, sz_59, o_fieldAddr fa_59_0 (by decide), want_some q22_5g4, k56, h1, h2, h3, h3', h4, h4', this]
end
section
variable (r f : Int) (b off n c : Nat) {cs : List Value} {own : Bool} (l : Nat → Ab) {h : List Blk}
theorem sh_ren : optAll (renV (idx [b]) dep) [shV r f b off n c] = some [shV r f 0 off n c] := by simp [renV, dep, optAll, idx, nbeq]
theorem k22 (hb : h[b]? = some (.cells cs 3 true own)) (hc : AbC cs off n l) : callH LL 22 [shV r f b off n c] h = some ⟨iv (chkS r f n l), h, [b], []⟩ :=
  callH_1 rfl hb noIdB_flat (sh_ren r f b off n c) (c22 r f off n c cs own l hc) fun _ => rfl
end
end Go.Proofs.Ytiafgimgcbmgaaa.bl
namespace Go.Proofs.Ytiafgimgcbmgaaa.bl
open Go.GE
set_option linter.unusedVariables false
set_option linter.unusedSimpArgs false
set_option maxRecDepth 100000
set_option maxHeartbeats 4000000
abbrev shB (r f : Int) (b off n c : Nat) : Blk := .cells [iv r, iv f, .slice (some ⟨b, off, none⟩) n c] 1 false true
end Go.Proofs.Ytiafgimgcbmgaaa.bl
namespace Go.Proofs.Ytiafgimgcbmgaaa.bl
open Go.GE
set_option linter.unusedVariables false
set_option linter.unusedSimpArgs false
set_option maxRecDepth 100000
set_option maxHeartbeats 4000000
attribute [local simp] runOps_nil runOps_cons runOpsF_nil runOpsF_cons fstS_some fstF_some opStep_eq want_none oStep_true oStep_false fin_pure fin_read fin_alloc fin_write storeB wrN cellV addWr o_move o_assign o_pick o_alloc o_box o_load o_store o_nilCheck o_bin o_un o_extract o_callV o_callB o_callI callV_f callV_y callV_fc o_makeFunc partsA Instr.fill builtin_len builtin_max2 bin_add bin_sub bin_mul bin_quo bin_rem bin_lss bin_leq bin_gtr bin_geq bin_eql bin_neq un_neg un_not bin_shr bin_shl wrap_u64_id opd opds optAll putO nbeq nblt constOk isC ops sub cl cr co bodyOf thenS_normal thenS_ret thenS_exit thenS_goto afterN_normal afterN_ret afterN_exit afterN_goto condS_true condS_false blockS_normal blockS_ret blockS_exit blockS_goto headS normS normK_eq fixS_nil fixS_cons fix1 fixV emptyB keepO_nil keepO_cons roundC_normal roundC_exit roundC_ret roundC_goto sweep_eq sweepD rnm pickR pickW rootsB ptrT renT ptrFn renFn ptrB_flat ptrB_non renB_flat renB_non plainS_some drawS_some fpsOk disj unord range' dropTo enumT undef wrap_i64_id Value.cells mkCells ptrTo scal cellsAt rdN endS_ret resultsA Option.bind_some tupV finish reachN dep ptrL_eq ptrL renL_eq renL ptrV_bool ptrV_int ptrV_string ptrV_nilFunc ptrV_nilIface ptrV_nilPtr ptrV_ptr ptrV_nilSl ptrV_sl ptrV_iface ptrV_agg ptrV_tuple ptrV_func renV_bool renV_int renV_string renV_nilFunc renV_nilIface renV_nilPtr renV_ptr renV_nilSl renV_sl renV_iface renV_agg renV_tuple renV_func gotoS_goto gotoS_normal gotoS_exit gotoS_ret skip_seq sliceE bnd bndHi intOf optOpd keepT_nil keepT_cons keepC_t keepC_f lk_nil lk_cons lkC_t lkC_f has_nil has_cons hasC_t hasC_f rep_nil rep_cons repC_t repC_f put_eq putC_t putC_f mem_nil mem_cons memC_t memC_f idx_nil idx_cons idxC_t idxC_f reach_nil reach_cons reachC_t reachC_f
attribute [local simp] n85_1s n85_4s n85_6s n85_9s n85_10s n85_8s n85_11s n85_7s n85_5s n85_3s n85_13s n85_15s n85_16s n85_14s n85_12s n85_2s n85_0s Try.f85 n58_1s n58_3s n58_5s n58_6s n58_4s n58_2s n58_0s Try.f58
structure Dr (r f : Int) : Prop where
  r0 : 0 ≤ r
  r1 : r ≤ 1000
  f0 : 0 ≤ f
  f1 : f ≤ 1000
structure OkA (a : Ab) : Prop where
  h0 : 0 ≤ a.h
  h1 : a.h ≤ 10000
  l0 : -1000000 ≤ a.lo
  l1 : a.lo ≤ a.hi
  l2 : a.hi ≤ 1000000
theorem okA_iff (a : Ab) : goodA a = true ↔ OkA a := by
  simp only [goodA, Bool.and_eq_true, decide_eq_true_eq]
  exact ⟨fun ⟨⟨a, b⟩, ⟨c, d⟩, e⟩ => ⟨a, b, c, d, e⟩, fun ⟨a, b, c, d, e⟩ => ⟨⟨a, b⟩, ⟨c, d⟩, e⟩⟩
theorem mulB {d f : Int} (h0 : 0 ≤ d) (h1 : d ≤ 10000) (f0 : 0 ≤ f) (f1 : f ≤ 1000) : 0 ≤ d * f ∧ d * f ≤ 10000000 := by
  refine ⟨Int.mul_nonneg h0 f0, ?_⟩
  have := Int.mul_le_mul h1 f1 f0 (by omega)
  omega
/-- the values at an hour by one absolute -/
def arLo (r f : Int) (a : Ab) (x : Int) : Int := if 0 ≤ x - a.h then a.lo - (x - a.h) * f else a.lo - (a.h - x) * r
def arHi (r f : Int) (a : Ab) (x : Int) : Int := if 0 ≤ x - a.h then a.hi + (x - a.h) * r else a.hi + (a.h - x) * f
section
variable (r f : Int) (b off n c : Nat) {cs : List Value} {own : Bool} {h : List Blk}
theorem k85 (D : Dr r f) (a : Ab) (A : OkA a) (x : Int) (x0 : 0 ≤ x) (x1 : x ≤ 10000) (hb : h[b]? = some (.cells cs 3 true own)) :
    callH LL 85 [shV r f b off n c, abV a, iv x] h = some ⟨.agg #[iv (arLo r f a x), iv (arHi r f a x)], h, [b], []⟩ := by
  obtain ⟨r0, r1, f0, f1⟩ := D
  obtain ⟨ah, al, au⟩ := a
  obtain ⟨h0, h1, l0, l1, l2⟩ := A
  simp only at h0 h1 l0 l1 l2
  refine callH_1 rfl hb noIdB_flat (args' := [shV r f 0 off n c, abV ⟨ah, al, au⟩, iv x]) (by simp [renV, dep, optAll, idx, nbeq]) (go (by decide) ?_) fun _ => rfl
  rw [run85 _ _ _ (by simp)]
  simp only [arLo, arHi]
  by_cases hx : 0 ≤ x - ah
  · rw [if_pos hx, if_pos hx]
    obtain ⟨d, hd⟩ : ∃ d, x - ah = d := ⟨_, rfl⟩
    have m1 := mulB (d := d) (by omega) (by omega) f0 f1
    have m2 := mulB (d := d) (by omega) (by omega) r0 r1
    rw [hd] at hx ⊢
    simp (maxSteps := 1000000) (disch := first | omega | decide | assumption | simp [scal]) [za_57, o_fieldAddr fa_59_0 (by decide), loadA_eq ia_3, o_fieldAddr fa_59_1 (by decide), o_fieldAddr fa_57_0 (by decide), o_fieldAddr fa_24_1 (by decide), o_fieldAddr fa_57_1 (by decide), o_fieldAddr fa_24_0 (by decide), o_build za_57 pl_57, sz_57, loadA_eq ia_57, hd, hx]
  · rw [if_neg hx, if_neg hx]
    obtain ⟨d, hd⟩ : ∃ d, ah - x = d := ⟨_, rfl⟩
    have m1 := mulB (d := d) (by omega) (by omega) f0 f1
    have m2 := mulB (d := d) (by omega) (by omega) r0 r1
    have hx' : ¬ (ah ≤ x) := by omega
    rw [hd]
    simp (maxSteps := 1000000) (disch := first | omega | decide | assumption | simp [scal]) [za_57, o_fieldAddr fa_59_0 (by decide), loadA_eq ia_3, o_fieldAddr fa_59_1 (by decide), o_fieldAddr fa_57_0 (by decide), o_fieldAddr fa_24_1 (by decide), o_fieldAddr fa_57_1 (by decide), o_fieldAddr fa_24_0 (by decide), o_build za_57 pl_57, sz_57, loadA_eq ia_57, hd, hx']
/-- two absolutes, the earlier one first, need a step -/
def needS (r f : Int) (a b : Ab) : Bool := decide (b.hi < arLo r f a b.h) || decide (arHi r f a b.h < b.lo)
theorem k58 (D : Dr r f) (a : Ab) (A : OkA a) (d : Ab) (B : OkA d) (hb : h[b]? = some (.cells cs 3 true own)) :
    callH LL 58 [shV r f b off n c, abV a, abV d] h = some ⟨.bool (needS r f a d), h, [b], []⟩ := by
  have e1 := fun (h : List Blk) hb => k85 r f 0 off n c (h := h) (cs := cs) (own := own) D a A d.h B.h0 B.h1 hb
  obtain ⟨dh, dl, du⟩ := d
  refine callH_1 rfl hb noIdB_flat (args' := [shV r f 0 off n c, abV a, abV ⟨dh, dl, du⟩]) (by simp [renV, dep, optAll, idx, nbeq]) (go (by decide) ?_) fun _ => rfl
  rw [run58 _ _ _ (by simp)]
  simp only [needS] at e1 ⊢
  obtain ⟨x1, hx1⟩ : ∃ x, arLo r f a dh = x := ⟨_, rfl⟩
  obtain ⟨x2, hx2⟩ : ∃ x, arHi r f a dh = x := ⟨_, rfl⟩
  rw [hx1, hx2]
  simp only [hx1, hx2] at e1
  by_cases q1 : du < x1 <;> by_cases q2 : x2 < dl <;>
  simp (maxSteps := 1000000) (disch := first | omega | decide | assumption | simp [scal]) [loadA_eq ia_24, loadA_eq ia_59, o_fieldAddr fa_59_0 (by decide), loadA_eq ia_3, za_57, sz_57, o_fieldAddr fa_57_0 (by decide), o_fieldAddr fa_59_1 (by decide), o_fieldAddr fa_57_1 (by decide), loadA_eq ia_57, want_some q58_5g6, e1, q1, q2]
end
end Go.Proofs.Ytiafgimgcbmgaaa.bl
namespace Go.Proofs.Ytiafgimgcbmgaaa.bl
open Go.GE
set_option linter.unusedVariables false
set_option linter.unusedSimpArgs false
set_option maxRecDepth 100000
set_option maxHeartbeats 4000000
attribute [local simp] runOps_nil runOps_cons runOpsF_nil runOpsF_cons fstS_some fstF_some opStep_eq want_none oStep_true oStep_false fin_pure fin_read fin_alloc fin_write storeB wrN cellV addWr o_move o_assign o_pick o_alloc o_box o_load o_store o_nilCheck o_bin o_un o_extract o_callV o_callB o_callI callV_f callV_y callV_fc o_makeFunc partsA Instr.fill builtin_len builtin_max2 bin_add bin_sub bin_mul bin_quo bin_rem bin_lss bin_leq bin_gtr bin_geq bin_eql bin_neq un_neg un_not bin_shr bin_shl wrap_u64_id opd opds optAll putO nbeq nblt constOk isC ops sub cl cr co bodyOf thenS_normal thenS_ret thenS_exit thenS_goto afterN_normal afterN_ret afterN_exit afterN_goto condS_true condS_false blockS_normal blockS_ret blockS_exit blockS_goto headS normS normK_eq fixS_nil fixS_cons fix1 fixV emptyB keepO_nil keepO_cons roundC_normal roundC_exit roundC_ret roundC_goto sweep_eq sweepD rnm pickR pickW rootsB ptrT renT ptrFn renFn ptrB_flat ptrB_non renB_flat renB_non plainS_some drawS_some fpsOk disj unord range' dropTo enumT undef wrap_i64_id Value.cells mkCells ptrTo scal cellsAt rdN endS_ret resultsA Option.bind_some tupV finish reachN dep ptrL_eq ptrL renL_eq renL ptrV_bool ptrV_int ptrV_string ptrV_nilFunc ptrV_nilIface ptrV_nilPtr ptrV_ptr ptrV_nilSl ptrV_sl ptrV_iface ptrV_agg ptrV_tuple ptrV_func renV_bool renV_int renV_string renV_nilFunc renV_nilIface renV_nilPtr renV_ptr renV_nilSl renV_sl renV_iface renV_agg renV_tuple renV_func gotoS_goto gotoS_normal gotoS_exit gotoS_ret skip_seq sliceE bnd bndHi intOf optOpd keepT_nil keepT_cons keepC_t keepC_f lk_nil lk_cons lkC_t lkC_f has_nil has_cons hasC_t hasC_f rep_nil rep_cons repC_t repC_f put_eq putC_t putC_f mem_nil mem_cons memC_t memC_f idx_nil idx_cons idxC_t idxC_f reach_nil reach_cons reachC_t reachC_f
attribute [local simp] n109_1s n109_3s n109_4s n109_2s n109_0s Try.f109 n111_1s n111_3s n111_4s n111_2s n111_0s Try.f111 n108_1s n108_3s n108_4s n108_2s n108_0s Try.f108 n104_1s n104_3s n104_5s n104_11s n104_13s n104_14s n104_12s n104_10s n104_17s n104_19s n104_21s n104_22s n104_20s n104_18s n104_16s n104_15s n104_9s n104_8s n104_8g n104_7s n104_24s n104_25s n104_23s n104_6s n104_4s n104_2s n104_0s Try.f104
theorem k109 (a : Int) (h : List Blk) : callH LL 109 [iv a] h = some ⟨.bool false, h, [], []⟩ := by
  refine callH_plain (go (by decide) ?_) rfl rfl
  rw [run109 _ _ _ (by simp)]
  simp (maxSteps := 1000000) (disch := first | omega | decide | assumption | simp [scal])
theorem k111 (a : Int) (h : List Blk) : callH LL 111 [iv a] h = some ⟨.bool false, h, [], []⟩ := by
  refine callH_plain (go (by decide) ?_) rfl rfl
  rw [run111 _ _ _ (by simp)]
  simp (maxSteps := 1000000) (disch := first | omega | decide | assumption | simp [scal])
theorem k108 (a b : Int) (h : List Blk) : callH LL 108 [iv a, iv b] h = some ⟨.bool (decide (a < b)), h, [], []⟩ := by
  refine callH_plain (go (by decide) ?_) rfl rfl
  rw [run108 _ _ _ (by simp)]
  by_cases h1 : a < b <;>
  simp (maxSteps := 1000000) (disch := first | omega | decide | assumption | simp [scal]) [want_some q108_3g2, want_some q108_3g7, h1, k111]
/-- how many, from the first one on, are less -/
def partL (st : Nat → Int) (x : Int) : Nat → Nat → Nat
  | 0, i => i
  | k + 1, i => if st i < x then partL st x k (i + 1) else i
def partS (m : Nat) (st : Nat → Int) (x : Int) : Nat := partL st x m 0
theorem partL_spec {st : Nat → Int} {x : Int} : ∀ k i, i ≤ partL st x k i ∧ partL st x k i ≤ i + k ∧ (∀ j, i ≤ j → j < partL st x k i → st j < x) ∧ (partL st x k i < i + k → ¬ st (partL st x k i) < x) := by
  intro k
  induction k with
  | zero => intro i; simp [partL]; omega
  | succ k ih =>
    intro i
    unfold partL
    split
    · rename_i h
      obtain ⟨h1, h2, h3, h4⟩ := ih (i + 1)
      refine ⟨by omega, by omega, fun j hj hk => ?_, fun hl => h4 (by omega)⟩
      rcases Nat.eq_or_lt_of_le hj with rfl | hj
      · exact h
      · exact h3 j hj hk
    · rename_i h
      exact ⟨by omega, by omega, fun j hj hk => by omega, fun _ => h⟩
/-- numbers that rise -/
def Asc (m : Nat) (st : Nat → Int) : Prop := ∀ i j, i < j → j < m → st i < st j
theorem part_iff {m : Nat} {st : Nat → Int} (ha : Asc m st) (x : Int) {i : Nat} (hi : i < m) : st i < x ↔ i < partS m st x := by
  obtain ⟨h1, h2, h3, h4⟩ := partL_spec (st := st) (x := x) m 0
  unfold partS
  constructor
  · intro h
    rcases Nat.lt_or_ge i (partL st x m 0) with h5 | h5
    · exact h5
    · have h6 := h4 (by omega)
      rcases Nat.eq_or_lt_of_le h5 with h7 | h7
      · rw [h7] at h6; exact absurd h h6
      · have := ha _ _ h7 hi; omega
  · intro h; exact h3 i (Nat.zero_le _) h
theorem part_le {m : Nat} {st : Nat → Int} {x : Int} : partS m st x ≤ m := by
  have := (partL_spec (st := st) (x := x) m 0).2.1
  unfold partS; omega
/-- cells of integers -/
def IvC (cs : List Value) (off n : Nat) (st : Nat → Int) : Prop := ∀ i, i < n → cs[off + i]? = some (iv (st i))
section
variable (off m c : Nat) (cs : List Value) (own : Bool) (st : Nat → Int)
theorem l104 (hc : IvC cs off m st) (ha : Asc m st) (x : Int) (hm : m ≤ 1000) : ∀ k lo hi : Nat, hi - lo ≤ k → lo ≤ partS m st x → partS m st x ≤ hi → hi ≤ m →
    lpB Try.prog LL ⟨104, 54, 1, none⟩ n104_8 n104_9 ⟨[(0, .slice (some ⟨0, off, none⟩) m c), (1, iv x), (6, iv m), (7, iv lo), (8, iv hi)], [.cells cs 1 true own], []⟩ =
      some (.exit 0, ⟨[(0, .slice (some ⟨0, off, none⟩) m c), (1, iv x), (6, iv m), (7, iv (partS m st x))], [.cells cs 1 true own], []⟩) := by
  intro k
  induction k with
  | zero =>
    intro lo hi h1 h2 h3 h4
    obtain rfl : lo = hi := by omega
    obtain rfl : lo = partS m st x := by omega
    rw [lpB_eq]
    simp (maxSteps := 1000000) (disch := first | omega | decide | assumption | simp [scal]) [lenA_sl lk_25, o_convI cv_3_190, o_convI cv_190_3, o_indexAddrS es_25, loadA_eq ia_3, want_some q104_24g4, want_some q104_24g11, want_some q104_24g17]
  | succ k ih =>
    intro lo hi h1 h2 h3 h4
    by_cases hlt : lo < hi
    · obtain ⟨mid, hmid⟩ : ∃ mid, (lo + hi) / 2 = mid := ⟨_, rfl⟩
      have e2 : ((lo : Int) + hi).fdiv 2 = mid := by rw [Int.fdiv_eq_ediv_of_nonneg _ (by decide)]; omega
      have e3 := hc mid (by omega)
      have e4 : mid < m := by omega
      have e5 := part_iff ha x e4
      rw [lpB_eq]
      by_cases hb : st mid < x
      · have this := ih (mid + 1) hi (by omega) (by have := e5.1 hb; omega) h3 h4
        simp only [cast1] at this
        simp (maxSteps := 1000000) (disch := first | omega | decide | assumption | simp [scal]) [lenA_sl lk_25, o_convI cv_3_190, o_convI cv_190_3, o_indexAddrS es_25, loadA_eq ia_3, want_some q104_24g4, want_some q104_24g11, want_some q104_24g17, hlt, e2, e3, e4, k108, hb, this]
      · have hb2 : ¬ mid < partS m st x := fun h => hb (e5.2 h)
        have this := ih lo mid (by omega) h2 (by omega) (by omega)
        simp (maxSteps := 1000000) (disch := first | omega | decide | assumption | simp [scal]) [lenA_sl lk_25, o_convI cv_3_190, o_convI cv_190_3, o_indexAddrS es_25, loadA_eq ia_3, want_some q104_24g4, want_some q104_24g11, want_some q104_24g17, hlt, e2, e3, e4, k108, hb, this]
    · obtain rfl : lo = hi := by omega
      obtain rfl : lo = partS m st x := by omega
      rw [lpB_eq]
      simp (maxSteps := 1000000) (disch := first | omega | decide | assumption | simp [scal]) [lenA_sl lk_25, o_convI cv_3_190, o_convI cv_190_3, o_indexAddrS es_25, loadA_eq ia_3, want_some q104_24g4, want_some q104_24g11, want_some q104_24g17]
theorem c104 (hc : IvC cs off m st) (ha : Asc m st) (x : Int) (hm : m ≤ 1000) : ∃ b, LL.run 104 [.slice (some ⟨0, off, none⟩) m c, iv x] [.cells cs 1 true own] = some ⟨.tuple #[iv (partS m st x), .bool b], [], []⟩ := by
  have hp := part_le (m := m) (st := st) (x := x)
  have this := l104 off m c cs own st hc ha x hm m 0 m (by omega) (Nat.zero_le _) hp (Nat.le_refl _)
  simp only [Int.natCast_zero] at this
  by_cases h1 : partS m st x < m
  · have e3 := hc _ h1
    by_cases h2 : st (partS m st x) = x
    · refine ⟨true, go (by decide) ?_⟩
      rw [run104 _ _ _ (by simp)]
      simp (maxSteps := 1000000) (disch := first | omega | decide | assumption | simp [scal]) [lenA_sl lk_25, o_convI cv_3_190, o_convI cv_190_3, o_indexAddrS es_25, loadA_eq ia_3, want_some q104_24g4, want_some q104_24g11, want_some q104_24g17, this, h1, e3, h2]
    · refine ⟨false, go (by decide) ?_⟩
      rw [run104 _ _ _ (by simp)]
      simp (maxSteps := 1000000) (disch := first | omega | decide | assumption | simp [scal]) [lenA_sl lk_25, o_convI cv_3_190, o_convI cv_190_3, o_indexAddrS es_25, loadA_eq ia_3, want_some q104_24g4, want_some q104_24g11, want_some q104_24g17, this, h1, e3, h2, k109]
  · refine ⟨false, go (by decide) ?_⟩
    rw [run104 _ _ _ (by simp)]
    simp (maxSteps := 1000000) (disch := first | omega | decide | assumption | simp [scal]) [lenA_sl lk_25, o_convI cv_3_190, o_convI cv_190_3, o_indexAddrS es_25, loadA_eq ia_3, want_some q104_24g4, want_some q104_24g11, want_some q104_24g17, this, h1]
end
end Go.Proofs.Ytiafgimgcbmgaaa.bl
namespace Go.Proofs.Ytiafgimgcbmgaaa.bl
open Go.GE
set_option linter.unusedVariables false
set_option linter.unusedSimpArgs false
set_option maxRecDepth 100000
set_option maxHeartbeats 4000000
attribute [local simp] runOps_nil runOps_cons runOpsF_nil runOpsF_cons fstS_some fstF_some opStep_eq want_none oStep_true oStep_false fin_pure fin_read fin_alloc fin_write storeB wrN cellV addWr o_move o_assign o_pick o_alloc o_box o_load o_store o_nilCheck o_bin o_un o_extract o_callV o_callB o_callI callV_f callV_y callV_fc o_makeFunc partsA Instr.fill builtin_len builtin_max2 bin_add bin_sub bin_mul bin_quo bin_rem bin_lss bin_leq bin_gtr bin_geq bin_eql bin_neq un_neg un_not bin_shr bin_shl wrap_u64_id opd opds optAll putO nbeq nblt constOk isC ops sub cl cr co bodyOf thenS_normal thenS_ret thenS_exit thenS_goto afterN_normal afterN_ret afterN_exit afterN_goto condS_true condS_false blockS_normal blockS_ret blockS_exit blockS_goto headS normS normK_eq fixS_nil fixS_cons fix1 fixV emptyB keepO_nil keepO_cons roundC_normal roundC_exit roundC_ret roundC_goto sweep_eq sweepD rnm pickR pickW rootsB ptrT renT ptrFn renFn ptrB_flat ptrB_non renB_flat renB_non plainS_some drawS_some fpsOk disj unord range' dropTo enumT undef wrap_i64_id Value.cells mkCells ptrTo scal cellsAt rdN endS_ret resultsA Option.bind_some tupV finish reachN dep ptrL_eq ptrL renL_eq renL ptrV_bool ptrV_int ptrV_string ptrV_nilFunc ptrV_nilIface ptrV_nilPtr ptrV_ptr ptrV_nilSl ptrV_sl ptrV_iface ptrV_agg ptrV_tuple ptrV_func renV_bool renV_int renV_string renV_nilFunc renV_nilIface renV_nilPtr renV_ptr renV_nilSl renV_sl renV_iface renV_agg renV_tuple renV_func gotoS_goto gotoS_normal gotoS_exit gotoS_ret skip_seq sliceE bnd bndHi intOf optOpd keepT_nil keepT_cons keepC_t keepC_f lk_nil lk_cons lkC_t lkC_f has_nil has_cons hasC_t hasC_f rep_nil rep_cons repC_t repC_f put_eq putC_t putC_f mem_nil mem_cons memC_t memC_f idx_nil idx_cons idxC_t idxC_f reach_nil reach_cons reachC_t reachC_f
attribute [local simp] n88_1s n88_3s n88_5s n88_6s n88_4s n88_2s n88_0s Try.f88
/-- a sheet with its steps -/
abbrev ptV (r f : Int) (b off n c b2 off2 m c2 : Nat) : Value := .agg #[iv r, iv f, .slice (some ⟨b, off, none⟩) n c, .slice (some ⟨b2, off2, none⟩) m c2]
abbrev stV (b off m c : Nat) : Value := .slice (some ⟨b, off, none⟩) m c
section
variable (r f : Int) (b1 off n c b2 off2 m c2 : Nat) {cs cs2 : List Value} {own own2 : Bool} {st : Nat → Int} {h : List Blk}
theorem k104 (hb : h[b2]? = some (.cells cs2 1 true own2)) (hc : IvC cs2 off2 m st) (ha : Asc m st) (hm : m ≤ 1000) (x : Int) : ∃ q, callH LL 104 [stV b2 off2 m c2, iv x] h = some ⟨.tuple #[iv (partS m st x), .bool q], h, [b2], []⟩ := by
  obtain ⟨q, hq⟩ := c104 off2 m c2 cs2 own2 st hc ha x hm
  exact ⟨q, callH_1 rfl hb noIdB_flat (args' := [stV 0 off2 m c2, iv x]) (by simp [renV, dep, optAll, idx, nbeq]) hq fun _ => rfl⟩
theorem k88 (hb : h[b1]? = some (.cells cs 3 true own)) (hb2 : h[b2]? = some (.cells cs2 1 true own2)) (hne : b1 ≠ b2) (hc : IvC cs2 off2 m st) (ha : Asc m st) (hm : m ≤ 1000) (x : Int) :
    callH LL 88 [ptV r f b1 off n c b2 off2 m c2, iv x] h = some ⟨iv (partS m st x), h, [b1, b2], []⟩ := by
  obtain ⟨q, hq⟩ := k104 1 off2 m c2 (h := [.cells cs 3 true own, .cells cs2 1 true own2, .cells [iv r, iv f, .slice (some ⟨0, off, none⟩) n c, .slice (some ⟨1, off2, none⟩) m c2] 1 false true]) (cs2 := cs2) rfl hc ha hm x
  refine callH_2 rfl hb hb2 hne noIdB_flat noIdB_flat (args' := [ptV r f 0 off n c 1 off2 m c2, iv x]) (by simp [renV, dep, optAll, idx, nbeq, hne, hne.symm]) (go (by decide) ?_) fun _ => rfl
  rw [run88 _ _ _ (by simp)]
  simp (maxSteps := 1000000) (disch := first | omega | decide | assumption | simp [scal]) [o_fieldAddr fa_115_1 (by decide), loadA_eq ia_25, hq]
end
end Go.Proofs.Ytiafgimgcbmgaaa.bl
namespace Go.Proofs.Ytiafgimgcbmgaaa.bl
open Go.GE
set_option linter.unusedVariables false
set_option linter.unusedSimpArgs false
set_option maxRecDepth 100000
set_option maxHeartbeats 4000000
/-- a valid sheet -/
structure Sht (r f : Int) (n : Nat) (l : Nat → Ab) : Prop where
  dr : Dr r f
  n1 : 1 ≤ n
  n40 : n ≤ 40
  ok : ∀ i, i < n → OkA (l i)
  asc : ∀ i j, i < j → j < n → (l i).h < (l j).h
theorem chkL_zero {l : Nat → Ab} : ∀ k i last, chkL l k i last = 0 → (∀ j, i ≤ j → j < i + k → OkA (l j)) ∧ (0 < k → last < (l i).h) ∧ ∀ j, i ≤ j → j + 1 < i + k → (l j).h < (l (j + 1)).h := by
  intro k
  induction k with
  | zero => intro i last _; exact ⟨fun j h1 h2 => by omega, fun h => by omega, fun j h1 h2 => by omega⟩
  | succ k ih =>
    intro i last h
    unfold chkL at h
    split at h
    · simp at h
    · rename_i h1
      split at h
      · simp at h
      · rename_i h2
        obtain ⟨q1, q2, q3⟩ := ih (i + 1) _ h
        refine ⟨fun j a b => ?_, fun _ => by omega, fun j a b => ?_⟩
        · rcases Nat.eq_or_lt_of_le a with rfl | a
          · exact (okA_iff _).1 (by simpa using h1)
          · exact q1 j (by omega) (by omega)
        · rcases Nat.eq_or_lt_of_le a with rfl | a
          · exact q2 (by omega)
          · exact q3 j (by omega) (by omega)
theorem chkS_zero {r f : Int} {n : Nat} {l : Nat → Ab} (h : chkS r f n l = 0) : Sht r f n l := by
  unfold chkS at h
  split at h
  · simp at h
  · rename_i h1
    split at h
    · simp at h
    · rename_i h2
      split at h
      · simp at h
      · rename_i h3
        obtain ⟨q1, q2, q3⟩ := chkL_zero _ _ _ h
        simp only [Bool.and_eq_true, decide_eq_true_eq, Bool.not_eq_false] at h1
        refine ⟨⟨h1.1.1, h1.1.2, h1.2.1, h1.2.2⟩, by omega, by omega, fun i hi => q1 i (by omega) (by omega), ?_⟩
        intro i j hij
        induction j with
        | zero => omega
        | succ j ih =>
          intro hj
          have := q3 j (by omega) (by omega)
          rcases Nat.lt_succ_iff_lt_or_eq.1 hij with h | rfl
          · have := ih h (by omega); omega
          · exact this
/-- does one of some numbers serve? -/
def anyF (P : Nat → Bool) : Nat → Nat → Bool
  | 0, _ => false
  | k + 1, j => P j || anyF P k (j + 1)
theorem anyF_iff {P : Nat → Bool} : ∀ k j, anyF P k j = true ↔ ∃ i, j ≤ i ∧ i < j + k ∧ P i = true := by
  intro k
  induction k with
  | zero => intro j; simp [anyF]; intro i h1 h2; omega
  | succ k ih =>
    intro j
    simp only [anyF, Bool.or_eq_true, ih]
    constructor
    · rintro (h | ⟨i, h1, h2, h3⟩)
      · exact ⟨j, by omega, by omega, h⟩
      · exact ⟨i, by omega, by omega, h3⟩
    · rintro ⟨i, h1, h2, h3⟩
      rcases Nat.eq_or_lt_of_le h1 with rfl | h1
      · exact .inl h3
      · exact .inr ⟨i, by omega, by omega, h3⟩
/-- two absolutes of one part clash; one can be left out -/
def badB (r f : Int) (l : Nat → Ab) (m : Nat) (st : Nat → Int) (out : Int) (i k : Nat) : Bool :=
  (((!decide ((i : Int) = out)) && !decide ((k : Int) = out)) && decide (partS m st (l i).h = partS m st (l k).h)) && needS r f (l i) (l k)
def clashS (r f : Int) (n : Nat) (l : Nat → Ab) (m : Nat) (st : Nat → Int) (out : Int) : Bool := anyF (fun i => anyF (badB r f l m st out i) (n - (i + 1)) (i + 1)) n 0
end Go.Proofs.Ytiafgimgcbmgaaa.bl
namespace Go.Proofs.Ytiafgimgcbmgaaa.bl
open Go.GE
set_option linter.unusedVariables false
set_option linter.unusedSimpArgs false
set_option maxRecDepth 100000
set_option maxHeartbeats 4000000
attribute [local simp] runOps_nil runOps_cons runOpsF_nil runOpsF_cons fstS_some fstF_some opStep_eq want_none oStep_true oStep_false fin_pure fin_read fin_alloc fin_write storeB wrN cellV addWr o_move o_assign o_pick o_alloc o_box o_load o_store o_nilCheck o_bin o_un o_extract o_callV o_callB o_callI callV_f callV_y callV_fc o_makeFunc partsA Instr.fill builtin_len builtin_max2 bin_add bin_sub bin_mul bin_quo bin_rem bin_lss bin_leq bin_gtr bin_geq bin_eql bin_neq un_neg un_not bin_shr bin_shl wrap_u64_id opd opds optAll putO nbeq nblt constOk isC ops sub cl cr co bodyOf thenS_normal thenS_ret thenS_exit thenS_goto afterN_normal afterN_ret afterN_exit afterN_goto condS_true condS_false blockS_normal blockS_ret blockS_exit blockS_goto headS normS normK_eq fixS_nil fixS_cons fix1 fixV emptyB keepO_nil keepO_cons roundC_normal roundC_exit roundC_ret roundC_goto sweep_eq sweepD rnm pickR pickW rootsB ptrT renT ptrFn renFn ptrB_flat ptrB_non renB_flat renB_non plainS_some drawS_some fpsOk disj unord range' dropTo enumT undef wrap_i64_id Value.cells mkCells ptrTo scal cellsAt rdN endS_ret resultsA Option.bind_some tupV finish reachN dep ptrL_eq ptrL renL_eq renL ptrV_bool ptrV_int ptrV_string ptrV_nilFunc ptrV_nilIface ptrV_nilPtr ptrV_ptr ptrV_nilSl ptrV_sl ptrV_iface ptrV_agg ptrV_tuple ptrV_func renV_bool renV_int renV_string renV_nilFunc renV_nilIface renV_nilPtr renV_ptr renV_nilSl renV_sl renV_iface renV_agg renV_tuple renV_func gotoS_goto gotoS_normal gotoS_exit gotoS_ret skip_seq sliceE bnd bndHi intOf optOpd keepT_nil keepT_cons keepC_t keepC_f lk_nil lk_cons lkC_t lkC_f has_nil has_cons hasC_t hasC_f rep_nil rep_cons repC_t repC_f put_eq putC_t putC_f mem_nil mem_cons memC_t memC_f idx_nil idx_cons idxC_t idxC_f reach_nil reach_cons reachC_t reachC_f
attribute [local simp] n73_1s n73_4s n73_8s n73_11s n73_12s n73_10s n73_16s n73_18s n73_22s n73_23s n73_21s n73_26s n73_29s n73_30s n73_28s n73_31s n73_27s n73_25s n73_24s n73_19s n73_17s n73_15s n73_14s n73_32s n73_13s n73_9s n73_7s n73_6s n73_6g n73_5s n73_3s n73_34s n73_35s n73_33s n73_2s n73_0s Try.f73
abbrev abB (a : Ab) : Blk := .cells [iv a.h, iv a.lo, iv a.hi] 1 true true
abbrev c1 (n : Int) : Blk := .cells [iv n] 1 true true
abbrev b1 (x : Bool) : Blk := .cells [.bool x] 1 true true
abbrev ptB (r f : Int) (b off n c b2 off2 m c2 : Nat) : Blk := .cells [iv r, iv f, .slice (some ⟨b, off, none⟩) n c, .slice (some ⟨b2, off2, none⟩) m c2] 1 false true
abbrev pp (b : Nat) : Value := .pointer (some ⟨b, 0, none⟩)
noncomputable def lp73 (a b d e g : Nat) : ALoop := ⟨.ready, none, 73, [(6, pp a), (5, pp b), (2, pp d), (3, pp e), (4, pp g)], 47, #[24, 25], n73_21, n73_24⟩
/-- do two clash, as they are met in a round? -/
def hitB (r f out : Int) (a d : Ab) (i k : Nat) : Bool := ((decide ((i : Int) < k) && !decide ((i : Int) = out)) && !decide ((k : Int) = out)) && needS r f a d
section
variable (r f : Int) (off n c off2 m c2 : Nat) (cs cs2 : List Value) (own own2 : Bool) (out : Int)
theorem r73 (D : Dr r f) (a d : Ab) (A : OkA a) (B : OkA d) (i k : Nat) (res : Bool) :
    LL.rnd 0 [iv i, abV a] [.loop (lp73 1 2 3 6 7), abB d, c1 k, ptB r f 4 off n c 5 off2 m c2, .cells cs 3 true own, .cells cs2 1 true own2, c1 out, b1 res] =
      if hitB r f out a d i k then some ⟨.bool false, [], [(0, .loop { lp73 1 2 3 6 7 with state := .done, pending := some .ret }), (7, b1 false)]⟩
      else some ⟨.bool true, [], [(0, .loop (lp73 1 2 3 6 7))]⟩ := by
  have hk := fun bx1 bx2 bx3 bx4 bx => k58 r f 4 off n c (h := bx1 :: bx2 :: bx3 :: bx4 :: .cells cs 3 true own :: bx) (cs := cs) (own := own) D a A d B rfl
  obtain ⟨dh, dl, du⟩ := d
  obtain ⟨ah, al, au⟩ := a
  rw [show LL = L Try.prog (wk.wtab.keep kpT) from rfl, L_rnd_eq]
  have e1 : codeB Try.prog LL ⟨73, 47, 8, some 0⟩ n73_21 ⟨[(25, abV ⟨ah, al, au⟩), (24, iv i), (6, pp 1), (5, pp 2), (2, pp 3), (3, pp 6), (4, pp 7)], [.loop (lp73 1 2 3 6 7), abB ⟨dh, dl, du⟩, c1 k, ptB r f 4 off n c 5 off2 m c2, .cells cs 3 true own, .cells cs2 1 true own2, c1 out, b1 res], []⟩ =
      some (.normal, ⟨[(8, pp 8), (7, iv i), (25, abV ⟨ah, al, au⟩), (24, iv i), (6, pp 1), (5, pp 2), (2, pp 3), (3, pp 6), (4, pp 7)], [.loop (lp73 1 2 3 6 7), abB ⟨dh, dl, du⟩, c1 k, ptB r f 4 off n c 5 off2 m c2, .cells cs 3 true own, .cells cs2 1 true own2, c1 out, b1 res, abB ⟨ah, al, au⟩], []⟩) := by
    simp (maxSteps := 1000000) (disch := first | omega | decide | assumption | simp [scal]) [za_4, o_fieldAddr fa_115_0 (by decide), o_fieldAddr fa_24_2 (by decide), loadA_eq ia_22, lenA_sl lk_22, o_indexAddrS es_22, loadA_eq ia_59, za_3, za_59, sz_3, sz_59, loadA_eq ia_115, o_fieldAddr fa_59_0 (by decide), loadA_eq ia_3, loadA_eq ia_24, sz_4, loadA_eq ia_4, want_some q73_26g3, want_some q73_26g8, want_some q73_26g13]
  have e2 : codeB Try.prog LL ⟨73, 47, 8, some 0⟩ n73_24 ⟨[(8, pp 8), (7, iv i), (25, abV ⟨ah, al, au⟩), (24, iv i), (6, pp 1), (5, pp 2), (2, pp 3), (3, pp 6), (4, pp 7)], [.loop { lp73 1 2 3 6 7 with state := .busy }, abB ⟨dh, dl, du⟩, c1 k, ptB r f 4 off n c 5 off2 m c2, .cells cs 3 true own, .cells cs2 1 true own2, c1 out, b1 res, abB ⟨ah, al, au⟩], [0]⟩ =
      if hitB r f out ⟨ah, al, au⟩ ⟨dh, dl, du⟩ i k then some (.ret, ⟨[(4, pp 7)], [.loop { lp73 1 2 3 6 7 with state := .busy }, abB ⟨dh, dl, du⟩, c1 k, ptB r f 4 off n c 5 off2 m c2, .cells cs 3 true own, .cells cs2 1 true own2, c1 out, b1 false], [0, 7]⟩)
      else some (.normal, ⟨[(8, pp 8), (7, iv i), (25, abV ⟨ah, al, au⟩), (24, iv i), (6, pp 1), (5, pp 2), (2, pp 3), (3, pp 6), (4, pp 7)], [.loop { lp73 1 2 3 6 7 with state := .busy }, abB ⟨dh, dl, du⟩, c1 k, ptB r f 4 off n c 5 off2 m c2, .cells cs 3 true own, .cells cs2 1 true own2, c1 out, b1 res, abB ⟨ah, al, au⟩], [0]⟩) := by
    have hb : hitB r f out ⟨ah, al, au⟩ ⟨dh, dl, du⟩ i k = (((decide ((i : Int) < k) && !decide ((i : Int) = out)) && !decide ((k : Int) = out)) && needS r f ⟨ah, al, au⟩ ⟨dh, dl, du⟩) := rfl
    by_cases w0 : (i : Int) < k
    · by_cases w1 : (i : Int) = out
      · rw [decide_eq_true w0, decide_eq_true w1] at hb
        simp (maxSteps := 1000000) (disch := first | omega | decide | assumption | simp [scal]) [za_4, o_fieldAddr fa_115_0 (by decide), o_fieldAddr fa_24_2 (by decide), loadA_eq ia_22, lenA_sl lk_22, o_indexAddrS es_22, loadA_eq ia_59, za_3, za_59, sz_3, sz_59, loadA_eq ia_115, o_fieldAddr fa_59_0 (by decide), loadA_eq ia_3, loadA_eq ia_24, sz_4, loadA_eq ia_4, want_some q73_26g3, want_some q73_26g8, want_some q73_26g13, w0, eq_true w1, hb, lp73]
      by_cases w2 : (k : Int) = out
      · rw [decide_eq_true w0, decide_eq_false w1, decide_eq_true w2] at hb
        simp (maxSteps := 1000000) (disch := first | omega | decide | assumption | simp [scal]) [za_4, o_fieldAddr fa_115_0 (by decide), o_fieldAddr fa_24_2 (by decide), loadA_eq ia_22, lenA_sl lk_22, o_indexAddrS es_22, loadA_eq ia_59, za_3, za_59, sz_3, sz_59, loadA_eq ia_115, o_fieldAddr fa_59_0 (by decide), loadA_eq ia_3, loadA_eq ia_24, sz_4, loadA_eq ia_4, want_some q73_26g3, want_some q73_26g8, want_some q73_26g13, w0, w1, eq_true w2, hb, lp73]
      rcases Bool.eq_false_or_eq_true (needS r f ⟨ah, al, au⟩ ⟨dh, dl, du⟩) with w3 | w3
      · rw [decide_eq_true w0, decide_eq_false w1, decide_eq_false w2, w3] at hb
        rw [w3] at hk
        simp (maxSteps := 1000000) (disch := first | omega | decide | assumption | simp [scal]) [za_4, o_fieldAddr fa_115_0 (by decide), o_fieldAddr fa_24_2 (by decide), loadA_eq ia_22, lenA_sl lk_22, o_indexAddrS es_22, loadA_eq ia_59, za_3, za_59, sz_3, sz_59, loadA_eq ia_115, o_fieldAddr fa_59_0 (by decide), loadA_eq ia_3, loadA_eq ia_24, sz_4, loadA_eq ia_4, want_some q73_26g3, want_some q73_26g8, want_some q73_26g13, w0, w1, w2, w3, hk, hb, lp73, ins, ptrB, renB]
      · rw [decide_eq_true w0, decide_eq_false w1, decide_eq_false w2, w3] at hb
        rw [w3] at hk
        simp (maxSteps := 1000000) (disch := first | omega | decide | assumption | simp [scal]) [za_4, o_fieldAddr fa_115_0 (by decide), o_fieldAddr fa_24_2 (by decide), loadA_eq ia_22, lenA_sl lk_22, o_indexAddrS es_22, loadA_eq ia_59, za_3, za_59, sz_3, sz_59, loadA_eq ia_115, o_fieldAddr fa_59_0 (by decide), loadA_eq ia_3, loadA_eq ia_24, sz_4, loadA_eq ia_4, want_some q73_26g3, want_some q73_26g8, want_some q73_26g13, w0, w1, w2, w3, hk, hb, lp73]
    · rw [decide_eq_false w0] at hb
      simp (maxSteps := 1000000) (disch := first | omega | decide | assumption | simp [scal]) [za_4, o_fieldAddr fa_115_0 (by decide), o_fieldAddr fa_24_2 (by decide), loadA_eq ia_22, lenA_sl lk_22, o_indexAddrS es_22, loadA_eq ia_59, za_3, za_59, sz_3, sz_59, loadA_eq ia_115, o_fieldAddr fa_59_0 (by decide), loadA_eq ia_3, loadA_eq ia_24, sz_4, loadA_eq ia_4, want_some q73_26g3, want_some q73_26g8, want_some q73_26g13, w0, hb, lp73]
  rcases Bool.eq_false_or_eq_true (hitB r f out ⟨ah, al, au⟩ ⟨dh, dl, du⟩ i k) with w | w
  · rw [if_pos w] at e2 ⊢
    rw [rnd_out (lp := lp73 1 2 3 6 7) (l1 := lp73 1 2 3 6 7) (l2 := { lp73 1 2 3 6 7 with state := .busy }) rfl rfl rfl rfl rfl e1 rfl rfl e2 (by simp) rfl]
    simp (maxSteps := 1000000) (disch := first | omega | decide | assumption | simp [scal]) [ins, exCode, lp73, ptrB, renB]
  · rw [if_neg (by simp [w])] at e2 ⊢
    rw [rnd_step (lp := lp73 1 2 3 6 7) (l1 := lp73 1 2 3 6 7) (l2 := { lp73 1 2 3 6 7 with state := .busy }) rfl rfl rfl rfl rfl e1 rfl rfl e2 rfl]
    simp (maxSteps := 1000000) (disch := first | omega | decide | assumption | simp [scal]) [ins, lp73, ptrB, renB]
end
end Go.Proofs.Ytiafgimgcbmgaaa.bl
namespace Go.Proofs.Ytiafgimgcbmgaaa.bl
open Go.GE
set_option linter.unusedVariables false
set_option linter.unusedSimpArgs false
set_option maxRecDepth 100000
set_option maxHeartbeats 4000000
attribute [local simp] runOps_nil runOps_cons runOpsF_nil runOpsF_cons fstS_some fstF_some opStep_eq want_none oStep_true oStep_false fin_pure fin_read fin_alloc fin_write storeB wrN cellV addWr o_move o_assign o_pick o_alloc o_box o_load o_store o_nilCheck o_bin o_un o_extract o_callV o_callB o_callI callV_f callV_y callV_fc o_makeFunc partsA Instr.fill builtin_len builtin_max2 bin_add bin_sub bin_mul bin_quo bin_rem bin_lss bin_leq bin_gtr bin_geq bin_eql bin_neq un_neg un_not bin_shr bin_shl wrap_u64_id opd opds optAll putO nbeq nblt constOk isC ops sub cl cr co bodyOf thenS_normal thenS_ret thenS_exit thenS_goto afterN_normal afterN_ret afterN_exit afterN_goto condS_true condS_false blockS_normal blockS_ret blockS_exit blockS_goto headS normS normK_eq fixS_nil fixS_cons fix1 fixV emptyB keepO_nil keepO_cons roundC_normal roundC_exit roundC_ret roundC_goto sweep_eq sweepD rnm pickR pickW rootsB ptrT renT ptrFn renFn ptrB_flat ptrB_non renB_flat renB_non plainS_some drawS_some fpsOk disj unord range' dropTo enumT undef wrap_i64_id Value.cells mkCells ptrTo scal cellsAt rdN endS_ret resultsA Option.bind_some tupV finish reachN dep ptrL_eq ptrL renL_eq renL ptrV_bool ptrV_int ptrV_string ptrV_nilFunc ptrV_nilIface ptrV_nilPtr ptrV_ptr ptrV_nilSl ptrV_sl ptrV_iface ptrV_agg ptrV_tuple ptrV_func renV_bool renV_int renV_string renV_nilFunc renV_nilIface renV_nilPtr renV_ptr renV_nilSl renV_sl renV_iface renV_agg renV_tuple renV_func gotoS_goto gotoS_normal gotoS_exit gotoS_ret skip_seq sliceE bnd bndHi intOf optOpd keepT_nil keepT_cons keepC_t keepC_f lk_nil lk_cons lkC_t lkC_f has_nil has_cons hasC_t hasC_f rep_nil rep_cons repC_t repC_f put_eq putC_t putC_f mem_nil mem_cons memC_t memC_f idx_nil idx_cons idxC_t idxC_f reach_nil reach_cons reachC_t reachC_f
attribute [local simp] n103_1s n103_5s n103_8s n103_9s n103_7s n103_13s n103_15s n103_17s n103_18s n103_16s n103_14s n103_12s n103_11s n103_19s n103_10s n103_6s n103_4s n103_3s n103_3g n103_2s n103_0s Try.f103
section
variable (r f : Int) (off n c off2 m c2 : Nat) (cs cs2 : List Value) (own own2 : Bool) (out : Int)
noncomputable def lpD (a b d e g : Nat) : ALoop := { lp73 a b d e g with state := .done, pending := some .ret }
theorem y103 (D : Dr r f) (a d : Ab) (A : OkA a) (B : OkA d) (i k : Nat) (res : Bool) (rest : List Blk) :
    yieldH LL 0 [iv i, abV a] (.loop (lp73 1 2 3 6 7) :: abB d :: c1 k :: ptB r f 4 off n c 5 off2 m c2 :: .cells cs 3 true own :: .cells cs2 1 true own2 :: c1 out :: b1 res :: rest) =
      if hitB r f out a d i k then some ⟨.bool false, .loop (lpD 1 2 3 6 7) :: abB d :: c1 k :: ptB r f 4 off n c 5 off2 m c2 :: .cells cs 3 true own :: .cells cs2 1 true own2 :: c1 out :: b1 false :: rest, [0, 1, 2, 3, 4, 5, 6, 7], [0, 7]⟩
      else some ⟨.bool true, .loop (lp73 1 2 3 6 7) :: abB d :: c1 k :: ptB r f 4 off n c 5 off2 m c2 :: .cells cs 3 true own :: .cells cs2 1 true own2 :: c1 out :: b1 res :: rest, [0, 1, 2, 3, 4, 5, 6, 7], [0]⟩ := by
  have e := r73 r f off n c off2 m c2 cs cs2 own own2 out D a d A B i k res
  have hm : ∀ q : Nat, 20 < q → reach (.loop (lp73 1 2 3 6 7) :: abB d :: c1 k :: ptB r f 4 off n c 5 off2 m c2 :: .cells cs 3 true own :: .cells cs2 1 true own2 :: c1 out :: b1 res :: rest) 0 q [0] [] = [0, 1, 2, 3, 4, 5, 6, 7] := by
    intro q hq
    obtain ⟨q, rfl⟩ : ∃ j, q = j + 20 := ⟨q - 20, by omega⟩
    simp [reach, mem, nblt, nbeq, ptrB, lp73, ptrT, ptrV_ptr, ptrV_sl, ptrV_int, dep]
  unfold yieldH
  have hp : 0 :: ([iv i, abV a] : List Value).flatMap (ptrV dep) = [0] := rfl
  have hr : ∀ g, optAll (renV g dep) [iv i, abV a] = some [iv i, abV a] := fun _ => rfl
  simp only [hp, hm reachN (by decide), hr]
  rcases Bool.eq_false_or_eq_true (hitB r f out a d i k) with w | w
  · rw [if_pos w] at e ⊢
    simp only [lp73, lpD] at e ⊢
    simp [optAll, renB, renT, renV_ptr, renV_sl, renV_int, dep, idx, nbeq, e, mergeB, renV_bool, nblt]
  · rw [if_neg (by simp [w])] at e ⊢
    simp only [lp73] at e ⊢
    simp [optAll, renB, renT, renV_ptr, renV_sl, renV_int, dep, idx, nbeq, e, mergeB, renV_bool, nblt]
variable (l : Nat → Ab) (st : Nat → Int)
theorem l103 (S : Sht r f n l) (hc : AbC cs off n l) (hc2 : IvC cs2 off2 m st) (ha : Asc m st) (hm : m ≤ 1000) (d : Ab) (B : OkA d) (k pt : Nat) : ∀ q i : Nat, i + q = n → ∀ W, (W = [] ∨ W = [0]) →
    (anyF (fun i => decide (partS m st (l i).h = pt) && hitB r f out (l i) d i k) q i = true →
      lpB Try.prog LL ⟨103, 29, 10, none⟩ n103_3 n103_4 ⟨[(0, .func (.yield 0) #[] #[]), (1, pp 8), (2, pp 9), (8, stV 4 off n c), (9, iv n), (10, iv i)], [.loop (lp73 1 2 3 6 7), abB d, c1 k, ptB r f 4 off n c 5 off2 m c2, .cells cs 3 true own, .cells cs2 1 true own2, c1 out, b1 false, ptB r f 4 off n c 5 off2 m c2, c1 pt], W⟩ =
        some (.ret, ⟨[], [.loop (lpD 1 2 3 6 7), abB d, c1 k, ptB r f 4 off n c 5 off2 m c2, .cells cs 3 true own, .cells cs2 1 true own2, c1 out, b1 false, ptB r f 4 off n c 5 off2 m c2, c1 pt], [0, 7]⟩)) ∧
    (anyF (fun i => decide (partS m st (l i).h = pt) && hitB r f out (l i) d i k) q i = false → ∃ W', (W' = [] ∨ W' = [0]) ∧
      lpB Try.prog LL ⟨103, 29, 10, none⟩ n103_3 n103_4 ⟨[(0, .func (.yield 0) #[] #[]), (1, pp 8), (2, pp 9), (8, stV 4 off n c), (9, iv n), (10, iv i)], [.loop (lp73 1 2 3 6 7), abB d, c1 k, ptB r f 4 off n c 5 off2 m c2, .cells cs 3 true own, .cells cs2 1 true own2, c1 out, b1 false, ptB r f 4 off n c 5 off2 m c2, c1 pt], W⟩ =
        some (.exit 0, ⟨[], [.loop (lp73 1 2 3 6 7), abB d, c1 k, ptB r f 4 off n c 5 off2 m c2, .cells cs 3 true own, .cells cs2 1 true own2, c1 out, b1 false, ptB r f 4 off n c 5 off2 m c2, c1 pt], W'⟩)) := by
  have hn := S.n40
  intro q
  induction q with
  | zero =>
    intro i hi W hW
    obtain rfl : i = n := by omega
    refine ⟨fun h => by simp [anyF] at h, fun _ => ⟨W, hW, ?_⟩⟩
    rw [lpB_eq]
    rcases hW with rfl | rfl <;>
    simp (maxSteps := 1000000) (disch := first | omega | decide | assumption | simp [scal]) [o_fieldAddr fa_115_0 (by decide), o_fieldAddr fa_24_2 (by decide), loadA_eq ia_22, lenA_sl lk_22, o_indexAddrS es_22, loadA_eq ia_59, za_59, sz_59, loadA_eq ia_115, o_fieldAddr fa_59_0 (by decide), loadA_eq ia_3, want_some q103_15g6, lp73, ptrB, renB]
  | succ q ih =>
    intro i hi W hW
    have e1 : i < n := by omega
    obtain ⟨p2, p3, p4⟩ := hc i e1
    have a1 := fun bx1 bx2 bx3 bx4 bx => k88 r f 4 off n c 5 off2 m c2 (h := bx1 :: bx2 :: bx3 :: bx4 :: .cells cs 3 true own :: .cells cs2 1 true own2 :: bx) (cs := cs) (cs2 := cs2) rfl rfl (by decide) hc2 ha hm (l i).h
    have a2 := y103 r f off n c off2 m c2 cs cs2 own own2 out S.dr (l i) d (S.ok i e1) B i k false
    rw [lpB_eq]
    simp only [anyF]
    by_cases w1 : partS m st (l i).h = pt
    · have w1' : (partS m st (l i).h : Int) = pt := by rw [w1]
      rcases Bool.eq_false_or_eq_true (hitB r f out (l i) d i k) with w2 | w2
      · simp only [w2, if_true] at a2
        refine ⟨fun _ => ?_, fun h => ?_⟩
        · simp only [lp73, lpD] at a2 ⊢
          rcases hW with rfl | rfl <;>
          simp (maxSteps := 1000000) (disch := first | omega | decide | assumption | simp [scal]) [o_fieldAddr fa_115_0 (by decide), o_fieldAddr fa_24_2 (by decide), loadA_eq ia_22, lenA_sl lk_22, o_indexAddrS es_22, loadA_eq ia_59, za_59, sz_59, loadA_eq ia_115, o_fieldAddr fa_59_0 (by decide), loadA_eq ia_3, want_some q103_15g6, ptrB, renB, e1, p2, p3, p4, a1, a2, eq_true w1', addWr, ins]
        · simp [w1, w2] at h
      · simp only [w2, Bool.false_eq_true, if_false] at a2
        have this := ih (i + 1) (by omega) [0] (.inr rfl)
        simp only [cast1] at this
        refine ⟨fun h => ?_, fun h => ?_⟩
        · have this := this.1 (by simpa [w2] using h)
          simp only [lp73, lpD] at this a2 ⊢
          rcases hW with rfl | rfl <;>
          simp (maxSteps := 1000000) (disch := first | omega | decide | assumption | simp [scal]) [o_fieldAddr fa_115_0 (by decide), o_fieldAddr fa_24_2 (by decide), loadA_eq ia_22, lenA_sl lk_22, o_indexAddrS es_22, loadA_eq ia_59, za_59, sz_59, loadA_eq ia_115, o_fieldAddr fa_59_0 (by decide), loadA_eq ia_3, want_some q103_15g6, lp73, lpD, ptrB, renB, e1, p2, p3, p4, a1, a2, eq_true w1', addWr, ins, this]
        · obtain ⟨W', hW', this⟩ := this.2 (by simpa [w2] using h)
          refine ⟨W', hW', ?_⟩
          simp only [lp73] at this a2 ⊢
          rcases hW with rfl | rfl <;>
          simp (maxSteps := 1000000) (disch := first | omega | decide | assumption | simp [scal]) [o_fieldAddr fa_115_0 (by decide), o_fieldAddr fa_24_2 (by decide), loadA_eq ia_22, lenA_sl lk_22, o_indexAddrS es_22, loadA_eq ia_59, za_59, sz_59, loadA_eq ia_115, o_fieldAddr fa_59_0 (by decide), loadA_eq ia_3, want_some q103_15g6, lp73, lpD, ptrB, renB, e1, p2, p3, p4, a1, a2, eq_true w1', addWr, ins, this]
    · have w1' : ¬ (partS m st (l i).h : Int) = pt := by omega
      have this := ih (i + 1) (by omega) W hW
      simp only [cast1] at this
      refine ⟨fun h => ?_, fun h => ?_⟩
      · have this := this.1 (by simpa [w1] using h)
        simp only [lp73, lpD] at this ⊢
        rcases hW with rfl | rfl <;>
        simp (maxSteps := 1000000) (disch := first | omega | decide | assumption | simp [scal]) [o_fieldAddr fa_115_0 (by decide), o_fieldAddr fa_24_2 (by decide), loadA_eq ia_22, lenA_sl lk_22, o_indexAddrS es_22, loadA_eq ia_59, za_59, sz_59, loadA_eq ia_115, o_fieldAddr fa_59_0 (by decide), loadA_eq ia_3, want_some q103_15g6, lp73, lpD, ptrB, renB, e1, p2, p3, p4, a1, w1', addWr, ins, this]
      · obtain ⟨W', hW', this⟩ := this.2 (by simpa [w1] using h)
        refine ⟨W', hW', ?_⟩
        simp only [lp73] at this ⊢
        rcases hW with rfl | rfl <;>
        simp (maxSteps := 1000000) (disch := first | omega | decide | assumption | simp [scal]) [o_fieldAddr fa_115_0 (by decide), o_fieldAddr fa_24_2 (by decide), loadA_eq ia_22, lenA_sl lk_22, o_indexAddrS es_22, loadA_eq ia_59, za_59, sz_59, loadA_eq ia_115, o_fieldAddr fa_59_0 (by decide), loadA_eq ia_3, want_some q103_15g6, lp73, lpD, ptrB, renB, e1, p2, p3, p4, a1, w1', addWr, ins, this]
end
end Go.Proofs.Ytiafgimgcbmgaaa.bl
namespace Go.Proofs.Ytiafgimgcbmgaaa.bl
open Go.GE
set_option linter.unusedVariables false
set_option linter.unusedSimpArgs false
set_option maxRecDepth 100000
set_option maxHeartbeats 4000000
attribute [local simp] runOps_nil runOps_cons runOpsF_nil runOpsF_cons fstS_some fstF_some opStep_eq want_none oStep_true oStep_false fin_pure fin_read fin_alloc fin_write storeB wrN cellV addWr o_move o_assign o_pick o_alloc o_box o_load o_store o_nilCheck o_bin o_un o_extract o_callV o_callB o_callI callV_f callV_y callV_fc o_makeFunc partsA Instr.fill builtin_len builtin_max2 bin_add bin_sub bin_mul bin_quo bin_rem bin_lss bin_leq bin_gtr bin_geq bin_eql bin_neq un_neg un_not bin_shr bin_shl wrap_u64_id opd opds optAll putO nbeq nblt constOk isC ops sub cl cr co bodyOf thenS_normal thenS_ret thenS_exit thenS_goto afterN_normal afterN_ret afterN_exit afterN_goto condS_true condS_false blockS_normal blockS_ret blockS_exit blockS_goto headS normS normK_eq fixS_nil fixS_cons fix1 fixV emptyB keepO_nil keepO_cons roundC_normal roundC_exit roundC_ret roundC_goto sweep_eq sweepD rnm pickR pickW rootsB ptrT renT ptrFn renFn ptrB_flat ptrB_non renB_flat renB_non plainS_some drawS_some fpsOk disj unord range' dropTo enumT undef wrap_i64_id Value.cells mkCells ptrTo scal cellsAt rdN endS_ret resultsA Option.bind_some tupV finish reachN dep ptrL_eq ptrL renL_eq renL ptrV_bool ptrV_int ptrV_string ptrV_nilFunc ptrV_nilIface ptrV_nilPtr ptrV_ptr ptrV_nilSl ptrV_sl ptrV_iface ptrV_agg ptrV_tuple ptrV_func renV_bool renV_int renV_string renV_nilFunc renV_nilIface renV_nilPtr renV_ptr renV_nilSl renV_sl renV_iface renV_agg renV_tuple renV_func gotoS_goto gotoS_normal gotoS_exit gotoS_ret skip_seq sliceE bnd bndHi intOf optOpd keepT_nil keepT_cons keepC_t keepC_f lk_nil lk_cons lkC_t lkC_f has_nil has_cons hasC_t hasC_f rep_nil rep_cons repC_t repC_f put_eq putC_t putC_f mem_nil mem_cons memC_t memC_f idx_nil idx_cons idxC_t idxC_f reach_nil reach_cons reachC_t reachC_f
attribute [local simp] n103_1s n103_5s n103_8s n103_9s n103_7s n103_13s n103_15s n103_17s n103_18s n103_16s n103_14s n103_12s n103_11s n103_19s n103_10s n103_6s n103_4s n103_3s n103_3g n103_2s n103_0s Try.f103 n87_1s n87_3s n87_4s n87_2s n87_0s Try.f87
section
variable (r f : Int) (off n c off2 m c2 : Nat) (cs cs2 : List Value) (own own2 : Bool) (out : Int) (l : Nat → Ab) (st : Nat → Int)
theorem c103 (S : Sht r f n l) (hc : AbC cs off n l) (hc2 : IvC cs2 off2 m st) (ha : Asc m st) (hm : m ≤ 1000) (d : Ab) (B : OkA d) (k pt : Nat) :
    (anyF (fun i => decide (partS m st (l i).h = pt) && hitB r f out (l i) d i k) n 0 = true →
      LL.run 103 [.func (.yield 0) #[] #[], pp 8, pp 9] [.loop (lp73 1 2 3 6 7), abB d, c1 k, ptB r f 4 off n c 5 off2 m c2, .cells cs 3 true own, .cells cs2 1 true own2, c1 out, b1 false, ptB r f 4 off n c 5 off2 m c2, c1 pt] =
        some ⟨.tuple #[], [], [(0, .loop (lpD 1 2 3 6 7)), (7, b1 false)]⟩) ∧
    (anyF (fun i => decide (partS m st (l i).h = pt) && hitB r f out (l i) d i k) n 0 = false → ∃ ws, (ws = [] ∨ ws = [(0, .loop (lp73 1 2 3 6 7))]) ∧
      LL.run 103 [.func (.yield 0) #[] #[], pp 8, pp 9] [.loop (lp73 1 2 3 6 7), abB d, c1 k, ptB r f 4 off n c 5 off2 m c2, .cells cs 3 true own, .cells cs2 1 true own2, c1 out, b1 false, ptB r f 4 off n c 5 off2 m c2, c1 pt] =
        some ⟨.tuple #[], [], ws⟩) := by
  have this := l103 r f off n c off2 m c2 cs cs2 own own2 out l st S hc hc2 ha hm d B k pt n 0 (by omega) [] (.inl rfl)
  simp only [Int.natCast_zero] at this
  refine ⟨fun h => go (by decide) ?_, fun h => ?_⟩
  · have this := this.1 h
    rw [run103 _ _ _ (by simp)]
    simp only [lp73, lpD] at this ⊢
    simp (maxSteps := 1000000) (disch := first | omega | decide | assumption | simp [scal]) [o_fieldAddr fa_115_0 (by decide), o_fieldAddr fa_24_2 (by decide), loadA_eq ia_22, lenA_sl lk_22, o_indexAddrS es_22, loadA_eq ia_59, za_59, sz_59, loadA_eq ia_115, o_fieldAddr fa_59_0 (by decide), loadA_eq ia_3, want_some q103_15g6, ptrB, renB, this]
  · obtain ⟨W, hW, this⟩ := this.2 h
    rcases hW with rfl | rfl
    · refine ⟨[], .inl rfl, go (by decide) ?_⟩
      rw [run103 _ _ _ (by simp)]
      simp only [lp73] at this ⊢
      simp (maxSteps := 1000000) (disch := first | omega | decide | assumption | simp [scal]) [o_fieldAddr fa_115_0 (by decide), o_fieldAddr fa_24_2 (by decide), loadA_eq ia_22, lenA_sl lk_22, o_indexAddrS es_22, loadA_eq ia_59, za_59, sz_59, loadA_eq ia_115, o_fieldAddr fa_59_0 (by decide), loadA_eq ia_3, want_some q103_15g6, ptrB, renB, this, endS_normal]
    · refine ⟨_, .inr rfl, go (by decide) ?_⟩
      rw [run103 _ _ _ (by simp)]
      simp only [lp73] at this ⊢
      simp (maxSteps := 1000000) (disch := first | omega | decide | assumption | simp [scal]) [o_fieldAddr fa_115_0 (by decide), o_fieldAddr fa_24_2 (by decide), loadA_eq ia_22, lenA_sl lk_22, o_indexAddrS es_22, loadA_eq ia_59, za_59, sz_59, loadA_eq ia_115, o_fieldAddr fa_59_0 (by decide), loadA_eq ia_3, want_some q103_15g6, ptrB, renB, this, endS_normal]
theorem k87 (pt : Nat) (rest : List Blk) : callH LL 87 [ptV r f 0 off n c 1 off2 m c2, iv pt] (.cells cs 3 true own :: .cells cs2 1 true own2 :: rest) =
    some ⟨.func (.func 103) #[] #[pp (rest.length + 2), pp (rest.length + 3)], .cells cs 3 true own :: .cells cs2 1 true own2 :: (rest ++ [ptB r f 0 off n c 1 off2 m c2, c1 pt]), [0, 1], []⟩ := by
  have e : LL.run 87 [ptV r f 0 off n c 1 off2 m c2, iv pt] [.cells cs 3 true own, .cells cs2 1 true own2] = some ⟨.func (.func 103) #[] #[pp 2, pp 3], [ptB r f 0 off n c 1 off2 m c2, c1 pt], []⟩ := by
    refine go (by decide) ?_
    rw [run87 _ _ _ (by simp)]
    simp (maxSteps := 1000000) (disch := first | omega | decide | assumption | simp [scal])
  refine callH_of (by intro _; first | trivial | rfl) ?_ (by simp)
  unfold callH0
  have hp : ([ptV r f 0 off n c 1 off2 m c2, iv pt] : List Value).flatMap (ptrV dep) = [0, 1] := rfl
  have hr : optAll (renV (idx [0, 1]) dep) [ptV r f 0 off n c 1 off2 m c2, iv pt] = some [ptV r f 0 off n c 1 off2 m c2, iv pt] := rfl
  rw [hp, reach_two (h := .cells cs 3 true own :: .cells cs2 1 true own2 :: rest) rfl rfl (by decide) rfl rfl (by decide)]
  simp only [hr]
  simp [optAll, renB, e, mergeB, renV_func, renFn, renL, renV_ptr, renL_eq, renV_int, renV_sl, dep, nblt]
end
end Go.Proofs.Ytiafgimgcbmgaaa.bl
namespace Go.Proofs.Ytiafgimgcbmgaaa.bl
open Go.GE
set_option linter.unusedVariables false
set_option linter.unusedSimpArgs false
set_option maxRecDepth 100000
set_option maxHeartbeats 4000000
attribute [local simp] runOps_nil runOps_cons runOpsF_nil runOpsF_cons fstS_some fstF_some opStep_eq want_none oStep_true oStep_false fin_pure fin_read fin_alloc fin_write storeB wrN cellV addWr o_move o_assign o_pick o_alloc o_box o_load o_store o_nilCheck o_bin o_un o_extract o_callV o_callB o_callI callV_f callV_y callV_fc o_makeFunc partsA Instr.fill builtin_len builtin_max2 bin_add bin_sub bin_mul bin_quo bin_rem bin_lss bin_leq bin_gtr bin_geq bin_eql bin_neq un_neg un_not bin_shr bin_shl wrap_u64_id opd opds optAll putO nbeq nblt constOk isC ops sub cl cr co bodyOf thenS_normal thenS_ret thenS_exit thenS_goto afterN_normal afterN_ret afterN_exit afterN_goto condS_true condS_false blockS_normal blockS_ret blockS_exit blockS_goto headS normS normK_eq fixS_nil fixS_cons fix1 fixV emptyB keepO_nil keepO_cons roundC_normal roundC_exit roundC_ret roundC_goto sweep_eq sweepD rnm pickR pickW rootsB ptrT renT ptrFn renFn ptrB_flat ptrB_non renB_flat renB_non plainS_some drawS_some fpsOk disj unord range' dropTo enumT undef wrap_i64_id Value.cells mkCells ptrTo scal cellsAt rdN endS_ret resultsA Option.bind_some tupV finish reachN dep ptrL_eq ptrL renL_eq renL ptrV_bool ptrV_int ptrV_string ptrV_nilFunc ptrV_nilIface ptrV_nilPtr ptrV_ptr ptrV_nilSl ptrV_sl ptrV_iface ptrV_agg ptrV_tuple ptrV_func renV_bool renV_int renV_string renV_nilFunc renV_nilIface renV_nilPtr renV_ptr renV_nilSl renV_sl renV_iface renV_agg renV_tuple renV_func gotoS_goto gotoS_normal gotoS_exit gotoS_ret skip_seq sliceE bnd bndHi intOf optOpd keepT_nil keepT_cons keepC_t keepC_f lk_nil lk_cons lkC_t lkC_f has_nil has_cons hasC_t hasC_f rep_nil rep_cons repC_t repC_f put_eq putC_t putC_f mem_nil mem_cons memC_t memC_f idx_nil idx_cons idxC_t idxC_f reach_nil reach_cons reachC_t reachC_f
attribute [local simp] n73_1s n73_4s n73_8s n73_11s n73_12s n73_10s n73_16s n73_18s n73_22s n73_23s n73_21s n73_26s n73_29s n73_30s n73_28s n73_31s n73_27s n73_25s n73_24s n73_19s n73_17s n73_15s n73_14s n73_32s n73_13s n73_9s n73_7s n73_6s n73_6g n73_5s n73_3s n73_34s n73_35s n73_33s n73_2s n73_0s Try.f73
/-- is there one that clashes with the k-th, as the program looks for it? -/
def rowB (r f out : Int) (l : Nat → Ab) (n m : Nat) (st : Nat → Int) (k : Nat) : Bool := anyF (fun i => decide (partS m st (l i).h = partS m st (l k).h) && hitB r f out (l i) (l k) i k) n 0
section
variable (r f : Int) (off n c off2 m c2 : Nat) (cs cs2 : List Value) (own own2 : Bool) (out : Int) (l : Nat → Ab) (st : Nat → Int)
theorem h103 (S : Sht r f n l) (hc : AbC cs off n l) (hc2 : IvC cs2 off2 m st) (ha : Asc m st) (hm : m ≤ 1000) (k : Nat) (hk : k < n) :
    (rowB r f out l n m st k = true →
      callH LL 103 [.func (.yield 9) #[] #[], pp 7, pp 8] [.cells cs 3 true own, .cells cs2 1 true own2, ptB r f 0 off n c 1 off2 m c2, c1 out, b1 false, c1 k, abB (l k), ptB r f 0 off n c 1 off2 m c2, c1 (partS m st (l k).h), .loop (lp73 6 5 2 3 4)] =
        some ⟨.tuple #[], [.cells cs 3 true own, .cells cs2 1 true own2, ptB r f 0 off n c 1 off2 m c2, c1 out, b1 false, c1 k, abB (l k), ptB r f 0 off n c 1 off2 m c2, c1 (partS m st (l k).h), .loop (lpD 6 5 2 3 4)], [9, 6, 5, 2, 0, 1, 3, 4, 7, 8], [9, 4]⟩) ∧
    (rowB r f out l n m st k = false → ∃ W, (W = [] ∨ W = [9]) ∧
      callH LL 103 [.func (.yield 9) #[] #[], pp 7, pp 8] [.cells cs 3 true own, .cells cs2 1 true own2, ptB r f 0 off n c 1 off2 m c2, c1 out, b1 false, c1 k, abB (l k), ptB r f 0 off n c 1 off2 m c2, c1 (partS m st (l k).h), .loop (lp73 6 5 2 3 4)] =
        some ⟨.tuple #[], [.cells cs 3 true own, .cells cs2 1 true own2, ptB r f 0 off n c 1 off2 m c2, c1 out, b1 false, c1 k, abB (l k), ptB r f 0 off n c 1 off2 m c2, c1 (partS m st (l k).h), .loop (lp73 6 5 2 3 4)], [9, 6, 5, 2, 0, 1, 3, 4, 7, 8], W⟩) := by
  have e := c103 r f off n c off2 m c2 cs cs2 own own2 out l st S hc hc2 ha hm (l k) (S.ok k hk) k (partS m st (l k).h)
  have hm : ∀ q : Nat, 20 < q → reach [.cells cs 3 true own, .cells cs2 1 true own2, ptB r f 0 off n c 1 off2 m c2, c1 out, b1 false, c1 k, abB (l k), ptB r f 0 off n c 1 off2 m c2, c1 (partS m st (l k).h), .loop (lp73 6 5 2 3 4)] 0 q [9, 7, 8] [] = [9, 6, 5, 2, 0, 1, 3, 4, 7, 8] := by
    intro q hq
    obtain ⟨q, rfl⟩ : ∃ j, q = j + 20 := ⟨q - 20, by omega⟩
    simp [reach_cons, reachC_t, reachC_f, reach_nil, rootsB, GE.mem, nblt, nbeq, ptrB, lp73, ptrT, ptrV_ptr, ptrV_sl, ptrV_int, dep]
  have hp : ([.func (.yield 9) #[] #[], pp 7, pp 8] : List Value).flatMap (ptrV dep) = [9, 7, 8] := rfl
  have key : ∀ rr, LL.run 103 [.func (.yield 0) #[] #[], pp 8, pp 9] [.loop (lp73 1 2 3 6 7), abB (l k), c1 k, ptB r f 4 off n c 5 off2 m c2, .cells cs 3 true own, .cells cs2 1 true own2, c1 out, b1 false, ptB r f 4 off n c 5 off2 m c2, c1 (partS m st (l k).h)] = some rr →
      callH0 LL 103 [.func (.yield 9) #[] #[], pp 7, pp 8] [.cells cs 3 true own, .cells cs2 1 true own2, ptB r f 0 off n c 1 off2 m c2, c1 out, b1 false, c1 k, abB (l k), ptB r f 0 off n c 1 off2 m c2, c1 (partS m st (l k).h), .loop (lp73 6 5 2 3 4)] =
        mergeB [.cells cs 3 true own, .cells cs2 1 true own2, ptB r f 0 off n c 1 off2 m c2, c1 out, b1 false, c1 k, abB (l k), ptB r f 0 off n c 1 off2 m c2, c1 (partS m st (l k).h), .loop (lp73 6 5 2 3 4)] [9, 6, 5, 2, 0, 1, 3, 4, 7, 8] rr := by
    intro rr hrr
    unfold callH0
    simp only [hp, hm reachN (by decide)]
    simp only [lp73] at hrr ⊢
    simp [optAll, renV_func, renFn, renL, renV_ptr, dep, idx, nbeq, renB, renT, renL_eq, renV_int, renV_sl, hrr]
  refine ⟨fun h => ?_, fun h => ?_⟩
  · refine callH_of (by intro _; first | trivial | rfl) ?_ (by simp)
    rw [key _ (e.1 h)]
    simp only [lp73, lpD]
    simp [mergeB, renV_tuple, renL, dep, optAll, renB, renT, renV_ptr, nblt]
  · obtain ⟨ws, hws, e⟩ := e.2 h
    rcases hws with rfl | rfl
    · refine ⟨[], .inl rfl, callH_of (by intro _; first | trivial | rfl) ?_ (by simp)⟩
      rw [key _ e]
      simp only [lp73]
      simp [mergeB, renV_tuple, renL, dep, optAll, renB, renT, renV_ptr, nblt]
    · refine ⟨[9], .inr rfl, callH_of (by intro _; first | trivial | rfl) ?_ (by simp)⟩
      rw [key _ e]
      simp only [lp73]
      simp [mergeB, renV_tuple, renL, dep, optAll, renB, renT, renV_ptr, nblt]
theorem ex_ret {X : Res} {σ : Tm} {h : List Blk} (e : X = some (.ret, ⟨σ, h, []⟩)) (h1 : lk σ 4 = some (pp 4)) (h2 : h[4]? = some (b1 false)) : ∃ σ h, lk σ 4 = some (pp 4) ∧ h[4]? = some (b1 false) ∧ X = some (.ret, ⟨σ, h, []⟩) := ⟨σ, h, h1, h2, e⟩
theorem l73 (S : Sht r f n l) (hc : AbC cs off n l) (hc2 : IvC cs2 off2 m st) (ha : Asc m st) (hm : m ≤ 1000) : ∀ q k : Nat, k + q = n →
    (anyF (rowB r f out l n m st) q k = true → ∃ σ h, lk σ 4 = some (pp 4) ∧ h[4]? = some (b1 false) ∧
      lpB Try.prog LL ⟨73, 47, 2, none⟩ n73_6 n73_7 ⟨[(2, pp 2), (3, pp 3), (4, pp 4), (11, stV 0 off n c), (12, iv n), (13, iv k)], [.cells cs 3 true own, .cells cs2 1 true own2, ptB r f 0 off n c 1 off2 m c2, c1 out, b1 false], []⟩ = some (.ret, ⟨σ, h, []⟩)) ∧
    (anyF (rowB r f out l n m st) q k = false →
      lpB Try.prog LL ⟨73, 47, 2, none⟩ n73_6 n73_7 ⟨[(2, pp 2), (3, pp 3), (4, pp 4), (11, stV 0 off n c), (12, iv n), (13, iv k)], [.cells cs 3 true own, .cells cs2 1 true own2, ptB r f 0 off n c 1 off2 m c2, c1 out, b1 false], []⟩ =
        some (.exit 0, ⟨[(4, pp 2)], [.cells cs 3 true own, .cells cs2 1 true own2, b1 false], []⟩)) := by
  have hn := S.n40
  intro q
  induction q with
  | zero =>
    intro k hk
    obtain rfl : k = n := by omega
    refine ⟨fun h => by simp [anyF] at h, fun _ => ?_⟩
    rw [lpB_eq]
    simp (maxSteps := 1000000) (disch := first | omega | decide | assumption | simp [scal]) [za_4, o_fieldAddr fa_115_0 (by decide), o_fieldAddr fa_24_2 (by decide), loadA_eq ia_22, lenA_sl lk_22, o_indexAddrS es_22, loadA_eq ia_59, za_3, za_59, sz_3, sz_59, loadA_eq ia_115, o_fieldAddr fa_59_0 (by decide), loadA_eq ia_3, loadA_eq ia_24, sz_4, loadA_eq ia_4, want_some q73_26g3, want_some q73_26g8, want_some q73_26g13]
  | succ q ih =>
    intro k hk
    have e1 : k < n := by omega
    obtain ⟨p2, p3, p4⟩ := hc k e1
    have a1 := fun bx => k88 r f 0 off n c 1 off2 m c2 (h := .cells cs 3 true own :: .cells cs2 1 true own2 :: bx) (cs := cs) (cs2 := cs2) rfl rfl (by decide) hc2 ha hm (l k).h
    have a2 := k87 r f off n c off2 m c2 cs cs2 own own2 (partS m st (l k).h)
    have a3 := h103 r f off n c off2 m c2 cs cs2 own own2 out l st S hc hc2 ha hm k e1
    have this := ih (k + 1) (by omega)
    simp only [cast1] at this
    rcases Bool.eq_false_or_eq_true (rowB r f out l n m st k) with w | w
    · have a3 := a3.1 w
      refine ⟨fun _ => ?_, fun h => by simp [anyF, w] at h⟩
      apply ex_ret
      · rw [lpB_eq]
        simp (maxSteps := 1000000) (disch := first | omega | decide | assumption | simp [scal]) [za_4, o_fieldAddr fa_115_0 (by decide), o_fieldAddr fa_24_2 (by decide), loadA_eq ia_22, lenA_sl lk_22, o_indexAddrS es_22, loadA_eq ia_59, za_3, za_59, sz_3, sz_59, loadA_eq ia_115, o_fieldAddr fa_59_0 (by decide), loadA_eq ia_3, loadA_eq ia_24, sz_4, loadA_eq ia_4, want_some q73_26g3, want_some q73_26g8, want_some q73_26g13, e1, p2, p3, p4, a1, a2]
        rw [range_step n73_20e n73_20k rfl]
        simp only [lp73, lpD] at a3
        simp (maxSteps := 1000000) (disch := first | omega | decide | assumption | simp [scal]) [za_4, o_fieldAddr fa_115_0 (by decide), o_fieldAddr fa_24_2 (by decide), loadA_eq ia_22, lenA_sl lk_22, o_indexAddrS es_22, loadA_eq ia_59, za_3, za_59, sz_3, sz_59, loadA_eq ia_115, o_fieldAddr fa_59_0 (by decide), loadA_eq ia_3, loadA_eq ia_24, sz_4, loadA_eq ia_4, want_some q73_26g3, want_some q73_26g8, want_some q73_26g13, a3]
        rw [rangeE_done (e := .ret) rfl rfl rfl rfl]
        simp (maxSteps := 1000000) (disch := first | omega | decide | assumption | simp [scal]) [za_4, o_fieldAddr fa_115_0 (by decide), o_fieldAddr fa_24_2 (by decide), loadA_eq ia_22, lenA_sl lk_22, o_indexAddrS es_22, loadA_eq ia_59, za_3, za_59, sz_3, sz_59, loadA_eq ia_115, o_fieldAddr fa_59_0 (by decide), loadA_eq ia_3, loadA_eq ia_24, sz_4, loadA_eq ia_4, want_some q73_26g3, want_some q73_26g8, want_some q73_26g13, addWr]
        exact ⟨rfl, rfl⟩
      · rfl
      · rfl
    · obtain ⟨W, hW, a3⟩ := a3.2 w
      simp only [anyF, w, Bool.false_or]
      have key : lpB Try.prog LL ⟨73, 47, 2, none⟩ n73_6 n73_7 ⟨[(2, pp 2), (3, pp 3), (4, pp 4), (11, stV 0 off n c), (12, iv n), (13, iv k)], [.cells cs 3 true own, .cells cs2 1 true own2, ptB r f 0 off n c 1 off2 m c2, c1 out, b1 false], []⟩ =
        lpB Try.prog LL ⟨73, 47, 2, none⟩ n73_6 n73_7 ⟨[(2, pp 2), (3, pp 3), (4, pp 4), (11, stV 0 off n c), (12, iv n), (13, iv (k + 1))], [.cells cs 3 true own, .cells cs2 1 true own2, ptB r f 0 off n c 1 off2 m c2, c1 out, b1 false], []⟩ := by
        rw [lpB_eq]
        simp (maxSteps := 1000000) (disch := first | omega | decide | assumption | simp [scal]) [za_4, o_fieldAddr fa_115_0 (by decide), o_fieldAddr fa_24_2 (by decide), loadA_eq ia_22, lenA_sl lk_22, o_indexAddrS es_22, loadA_eq ia_59, za_3, za_59, sz_3, sz_59, loadA_eq ia_115, o_fieldAddr fa_59_0 (by decide), loadA_eq ia_3, loadA_eq ia_24, sz_4, loadA_eq ia_4, want_some q73_26g3, want_some q73_26g8, want_some q73_26g13, e1, p2, p3, p4, a1, a2]
        rw [range_step n73_20e n73_20k rfl]
        simp only [lp73] at a3
        simp (maxSteps := 1000000) (disch := first | omega | decide | assumption | simp [scal]) [za_4, o_fieldAddr fa_115_0 (by decide), o_fieldAddr fa_24_2 (by decide), loadA_eq ia_22, lenA_sl lk_22, o_indexAddrS es_22, loadA_eq ia_59, za_3, za_59, sz_3, sz_59, loadA_eq ia_115, o_fieldAddr fa_59_0 (by decide), loadA_eq ia_3, loadA_eq ia_24, sz_4, loadA_eq ia_4, want_some q73_26g3, want_some q73_26g8, want_some q73_26g13, a3]
        rw [rangeE_ready rfl rfl rfl]
        rcases hW with rfl | rfl <;>
        simp (maxSteps := 1000000) (disch := first | omega | decide | assumption | simp [scal]) [za_4, o_fieldAddr fa_115_0 (by decide), o_fieldAddr fa_24_2 (by decide), loadA_eq ia_22, lenA_sl lk_22, o_indexAddrS es_22, loadA_eq ia_59, za_3, za_59, sz_3, sz_59, loadA_eq ia_115, o_fieldAddr fa_59_0 (by decide), loadA_eq ia_3, loadA_eq ia_24, sz_4, loadA_eq ia_4, want_some q73_26g3, want_some q73_26g8, want_some q73_26g13, addWr]
      rw [key]
      exact this
end
end Go.Proofs.Ytiafgimgcbmgaaa.bl
namespace Go.Proofs.Ytiafgimgcbmgaaa.bl
open Go.GE
set_option linter.unusedVariables false
set_option linter.unusedSimpArgs false
set_option maxRecDepth 100000
set_option maxHeartbeats 4000000
attribute [local simp] runOps_nil runOps_cons runOpsF_nil runOpsF_cons fstS_some fstF_some opStep_eq want_none oStep_true oStep_false fin_pure fin_read fin_alloc fin_write storeB wrN cellV addWr o_move o_assign o_pick o_alloc o_box o_load o_store o_nilCheck o_bin o_un o_extract o_callV o_callB o_callI callV_f callV_y callV_fc o_makeFunc partsA Instr.fill builtin_len builtin_max2 bin_add bin_sub bin_mul bin_quo bin_rem bin_lss bin_leq bin_gtr bin_geq bin_eql bin_neq un_neg un_not bin_shr bin_shl wrap_u64_id opd opds optAll putO nbeq nblt constOk isC ops sub cl cr co bodyOf thenS_normal thenS_ret thenS_exit thenS_goto afterN_normal afterN_ret afterN_exit afterN_goto condS_true condS_false blockS_normal blockS_ret blockS_exit blockS_goto headS normS normK_eq fixS_nil fixS_cons fix1 fixV emptyB keepO_nil keepO_cons roundC_normal roundC_exit roundC_ret roundC_goto sweep_eq sweepD rnm pickR pickW rootsB ptrT renT ptrFn renFn ptrB_flat ptrB_non renB_flat renB_non plainS_some drawS_some fpsOk disj unord range' dropTo enumT undef wrap_i64_id Value.cells mkCells ptrTo scal cellsAt rdN endS_ret resultsA Option.bind_some tupV finish reachN dep ptrL_eq ptrL renL_eq renL ptrV_bool ptrV_int ptrV_string ptrV_nilFunc ptrV_nilIface ptrV_nilPtr ptrV_ptr ptrV_nilSl ptrV_sl ptrV_iface ptrV_agg ptrV_tuple ptrV_func renV_bool renV_int renV_string renV_nilFunc renV_nilIface renV_nilPtr renV_ptr renV_nilSl renV_sl renV_iface renV_agg renV_tuple renV_func gotoS_goto gotoS_normal gotoS_exit gotoS_ret skip_seq sliceE bnd bndHi intOf optOpd keepT_nil keepT_cons keepC_t keepC_f lk_nil lk_cons lkC_t lkC_f has_nil has_cons hasC_t hasC_f rep_nil rep_cons repC_t repC_f put_eq putC_t putC_f mem_nil mem_cons memC_t memC_f idx_nil idx_cons idxC_t idxC_f reach_nil reach_cons reachC_t reachC_f
attribute [local simp] n73_1s n73_4s n73_8s n73_11s n73_12s n73_10s n73_16s n73_18s n73_22s n73_23s n73_21s n73_26s n73_29s n73_30s n73_28s n73_31s n73_27s n73_25s n73_24s n73_19s n73_17s n73_15s n73_14s n73_32s n73_13s n73_9s n73_7s n73_6s n73_6g n73_5s n73_3s n73_34s n73_35s n73_33s n73_2s n73_0s Try.f73 n72_1s n72_4s n72_6s n72_9s n72_10s n72_8s n72_11s n72_7s n72_5s n72_3s n72_14s n72_17s n72_18s n72_16s n72_19s n72_15s n72_13s n72_21s n72_24s n72_28s n72_31s n72_32s n72_30s n72_36s n72_40s n72_43s n72_44s n72_42s n72_46s n72_49s n72_50s n72_48s n72_51s n72_47s n72_45s n72_41s n72_39s n72_38s n72_52s n72_37s n72_35s n72_34s n72_53s n72_33s n72_29s n72_27s n72_26s n72_26g n72_25s n72_23s n72_55s n72_56s n72_54s n72_22s n72_20s n72_12s n72_2s n72_0s Try.f72
theorem any_clash {r f out : Int} {l : Nat → Ab} {n m : Nat} {st : Nat → Int} : anyF (rowB r f out l n m st) n 0 = clashS r f n l m st out := by
  apply Bool.eq_iff_iff.2
  unfold clashS
  simp only [anyF_iff, rowB, hitB, badB, Bool.and_eq_true, Bool.not_eq_true', decide_eq_true_eq, decide_eq_false_iff_not]
  constructor
  · rintro ⟨k, _, hk, i, _, hi, h1, ⟨⟨h2, h3⟩, h4⟩, h5⟩
    exact ⟨i, by omega, by omega, k, by omega, by omega, ⟨⟨h3, h4⟩, h1⟩, h5⟩
  · rintro ⟨i, _, hi, k, h0, hk, ⟨⟨h3, h4⟩, h1⟩, h5⟩
    exact ⟨k, by omega, by omega, i, by omega, by omega, h1, ⟨⟨by omega, h3⟩, h4⟩, h5⟩
section
variable (r f : Int) (off n c off2 m c2 : Nat) (cs cs2 : List Value) (own own2 : Bool) (out : Int) (l : Nat → Ab) (st : Nat → Int)
theorem c73 (S : Sht r f n l) (hc : AbC cs off n l) (hc2 : IvC cs2 off2 m st) (ha : Asc m st) (hm : m ≤ 1000) : LL.run 73 [ptV r f 0 off n c 1 off2 m c2, iv out] [.cells cs 3 true own, .cells cs2 1 true own2] = some ⟨.bool (!clashS r f n l m st out), [], []⟩ := by
  refine go (by decide) ?_
  rw [run73 _ _ _ (by simp)]
  have this := l73 r f off n c off2 m c2 cs cs2 own own2 out l st S hc hc2 ha hm n 0 (by omega)
  rw [any_clash] at this
  simp only [Int.natCast_zero] at this
  rcases Bool.eq_false_or_eq_true (clashS r f n l m st out) with w | w
  · obtain ⟨σ, h, h1, h2, this⟩ := this.1 w
    rw [w]
    simp (maxSteps := 1000000) (disch := first | omega | decide | assumption | simp [scal]) [za_4, o_fieldAddr fa_115_0 (by decide), o_fieldAddr fa_24_2 (by decide), loadA_eq ia_22, lenA_sl lk_22, o_indexAddrS es_22, loadA_eq ia_59, za_3, za_59, sz_3, sz_59, loadA_eq ia_115, o_fieldAddr fa_59_0 (by decide), loadA_eq ia_3, loadA_eq ia_24, sz_4, loadA_eq ia_4, want_some q73_26g3, want_some q73_26g8, want_some q73_26g13, this, h1, h2]
  · have this := this.2 w
    rw [w]
    simp (maxSteps := 1000000) (disch := first | omega | decide | assumption | simp [scal]) [za_4, o_fieldAddr fa_115_0 (by decide), o_fieldAddr fa_24_2 (by decide), loadA_eq ia_22, lenA_sl lk_22, o_indexAddrS es_22, loadA_eq ia_59, za_3, za_59, sz_3, sz_59, loadA_eq ia_115, o_fieldAddr fa_59_0 (by decide), loadA_eq ia_3, loadA_eq ia_24, sz_4, loadA_eq ia_4, want_some q73_26g3, want_some q73_26g8, want_some q73_26g13, this]
def stpL (st : Nat → Int) : Nat → Nat → Int → Int
  | 0, _, _ => 0
  | k + 1, i, last => if (decide (0 ≤ st i) && decide (st i ≤ 10000)) = false then 1 else if st i ≤ last then 5 else stpL st k (i + 1) (st i)
noncomputable def stpS (m : Nat) (st : Nat → Int) : Int := if 40 < m then 3 else stpL st m 0 (-1)
abbrev E3 : Blk := .cells [] 3 true true
abbrev E1 : Blk := .cells [] 1 true true
abbrev zB (a b : Nat) : Blk := .cells [iv 0, iv 0, .slice (some ⟨a, 0, none⟩) 0 0, .slice (some ⟨b, 0, none⟩) 0 0] 1 false true
abbrev zV (a b : Nat) : Value := .agg #[iv 0, iv 0, .slice (some ⟨a, 0, none⟩) 0 0, .slice (some ⟨b, 0, none⟩) 0 0]
theorem l72 (hc2 : IvC cs2 off2 m st) (hm : m ≤ 40) : ∀ k (i : Nat) last, i + k = m →
    lpB Try.prog LL ⟨72, 41, 2, none⟩ n72_26 n72_27 ⟨[(1, stV 1 off2 m c2), (2, pp 2), (4, pp 3), (7, iv last), (20, stV 1 off2 m c2), (21, iv m), (22, iv i)], [.cells cs 3 true own, .cells cs2 1 true own2, shB r f 0 off n c, zB 4 5, E3, E1], []⟩ =
      if stpL st k i last = 0 then some (.exit 0, ⟨[(1, stV 1 off2 m c2), (2, pp 2), (4, pp 3)], [.cells cs 3 true own, .cells cs2 1 true own2, shB r f 0 off n c, zB 4 5, E3, E1], []⟩)
      else some (.ret, ⟨[(4, pp 2), (5, iv (stpL st k i last))], [.cells cs 3 true own, .cells cs2 1 true own2, zB 3 4, E3, E1], []⟩) := by
  intro k
  induction k with
  | zero =>
    intro i last hi
    obtain rfl : i = m := by omega
    rw [lpB_eq]
    simp (maxSteps := 1000000) (disch := first | omega | decide | assumption | simp [scal]) [za_115, loadA_eq ia_24, o_build za_115 pl_115, sz_115, lenA_sl lk_25, o_indexAddrS es_25, loadA_eq ia_3, loadA_eq ia_115, stpL]
  | succ k ih =>
    intro i last hi
    have e1 : i < m := by omega
    have this := ih (i + 1) (st i) (by omega)
    have e2 := hc2 i e1
    rw [lpB_eq]
    simp only [cast1] at this
    cases h1 : (decide (0 ≤ st i) && decide (st i ≤ 10000))
    · simp (maxSteps := 1000000) (disch := first | omega | decide | assumption | simp [scal]) [za_115, loadA_eq ia_24, o_build za_115 pl_115, sz_115, lenA_sl lk_25, o_indexAddrS es_25, loadA_eq ia_3, loadA_eq ia_115, stpL, k56, e1, e2, h1]
    · by_cases h2 : st i ≤ last
      · simp (maxSteps := 1000000) (disch := first | omega | decide | assumption | simp [scal]) [za_115, loadA_eq ia_24, o_build za_115 pl_115, sz_115, lenA_sl lk_25, o_indexAddrS es_25, loadA_eq ia_3, loadA_eq ia_115, stpL, k56, e1, e2, h1, h2]
      · simp (maxSteps := 1000000) (disch := first | omega | decide | assumption | simp [scal]) [za_115, loadA_eq ia_24, o_build za_115 pl_115, sz_115, lenA_sl lk_25, o_indexAddrS es_25, loadA_eq ia_3, loadA_eq ia_115, stpL, k56, e1, e2, h1, h2, this]
end
end Go.Proofs.Ytiafgimgcbmgaaa.bl
namespace Go.Proofs.Ytiafgimgcbmgaaa.bl
open Go.GE
set_option linter.unusedVariables false
set_option linter.unusedSimpArgs false
set_option maxRecDepth 100000
set_option maxHeartbeats 4000000
attribute [local simp] runOps_nil runOps_cons runOpsF_nil runOpsF_cons fstS_some fstF_some opStep_eq want_none oStep_true oStep_false fin_pure fin_read fin_alloc fin_write storeB wrN cellV addWr o_move o_assign o_pick o_alloc o_box o_load o_store o_nilCheck o_bin o_un o_extract o_callV o_callB o_callI callV_f callV_y callV_fc o_makeFunc partsA Instr.fill builtin_len builtin_max2 bin_add bin_sub bin_mul bin_quo bin_rem bin_lss bin_leq bin_gtr bin_geq bin_eql bin_neq un_neg un_not bin_shr bin_shl wrap_u64_id opd opds optAll putO nbeq nblt constOk isC ops sub cl cr co bodyOf thenS_normal thenS_ret thenS_exit thenS_goto afterN_normal afterN_ret afterN_exit afterN_goto condS_true condS_false blockS_normal blockS_ret blockS_exit blockS_goto headS normS normK_eq fixS_nil fixS_cons fix1 fixV emptyB keepO_nil keepO_cons roundC_normal roundC_exit roundC_ret roundC_goto sweep_eq sweepD rnm pickR pickW rootsB ptrT renT ptrFn renFn ptrB_flat ptrB_non renB_flat renB_non plainS_some drawS_some fpsOk disj unord range' dropTo enumT undef wrap_i64_id Value.cells mkCells ptrTo scal cellsAt rdN endS_ret resultsA Option.bind_some tupV finish reachN dep ptrL_eq ptrL renL_eq renL ptrV_bool ptrV_int ptrV_string ptrV_nilFunc ptrV_nilIface ptrV_nilPtr ptrV_ptr ptrV_nilSl ptrV_sl ptrV_iface ptrV_agg ptrV_tuple ptrV_func renV_bool renV_int renV_string renV_nilFunc renV_nilIface renV_nilPtr renV_ptr renV_nilSl renV_sl renV_iface renV_agg renV_tuple renV_func gotoS_goto gotoS_normal gotoS_exit gotoS_ret skip_seq sliceE bnd bndHi intOf optOpd keepT_nil keepT_cons keepC_t keepC_f lk_nil lk_cons lkC_t lkC_f has_nil has_cons hasC_t hasC_f rep_nil rep_cons repC_t repC_f put_eq putC_t putC_f mem_nil mem_cons memC_t memC_f idx_nil idx_cons idxC_t idxC_f reach_nil reach_cons reachC_t reachC_f
attribute [local simp] n72_1s n72_4s n72_6s n72_9s n72_10s n72_8s n72_11s n72_7s n72_5s n72_3s n72_14s n72_17s n72_18s n72_16s n72_19s n72_15s n72_13s n72_21s n72_24s n72_28s n72_31s n72_32s n72_30s n72_36s n72_40s n72_43s n72_44s n72_42s n72_46s n72_49s n72_50s n72_48s n72_51s n72_47s n72_45s n72_41s n72_39s n72_38s n72_52s n72_37s n72_35s n72_34s n72_53s n72_33s n72_29s n72_27s n72_26s n72_26g n72_25s n72_23s n72_55s n72_56s n72_54s n72_22s n72_20s n72_12s n72_2s n72_0s Try.f72 n53_1s n53_3s n53_6s n53_9s n53_10s n53_8s n53_11s n53_7s n53_5s n53_13s n53_14s n53_12s n53_4s n53_2s n53_0s Try.f53
/-- the error of a sheet with steps -/
noncomputable def ptdE (r f : Int) (n : Nat) (l : Nat → Ab) (m : Nat) (st : Nat → Int) : Int := if chkS r f n l ≠ 0 then chkS r f n l else stpS m st
theorem asc_of {m : Nat} {st : Nat → Int} (h : stpS m st = 0) : Asc m st ∧ m ≤ 40 ∧ ∀ i, i < m → 0 ≤ st i ∧ st i ≤ 10000 := by
  unfold stpS at h
  split at h
  · simp at h
  · rename_i hm
    have key : ∀ k i last, stpL st k i last = 0 → (∀ j, i ≤ j → j < i + k → 0 ≤ st j ∧ st j ≤ 10000) ∧ (0 < k → last < st i) ∧ ∀ j, i ≤ j → j + 1 < i + k → st j < st (j + 1) := by
      intro k
      induction k with
      | zero => intro i last _; exact ⟨fun j h1 h2 => by omega, fun h => by omega, fun j h1 h2 => by omega⟩
      | succ k ih =>
        intro i last h
        unfold stpL at h
        split at h
        · simp at h
        · rename_i h1
          split at h
          · simp at h
          · rename_i h2
            obtain ⟨q1, q2, q3⟩ := ih (i + 1) _ h
            simp only [Bool.not_eq_false, Bool.and_eq_true, decide_eq_true_eq] at h1
            refine ⟨fun j a b => ?_, fun _ => by omega, fun j a b => ?_⟩
            · rcases Nat.eq_or_lt_of_le a with rfl | a
              · exact h1
              · exact q1 j (by omega) (by omega)
            · rcases Nat.eq_or_lt_of_le a with rfl | a
              · exact q2 (by omega)
              · exact q3 j (by omega) (by omega)
    obtain ⟨q1, q2, q3⟩ := key _ _ _ h
    refine ⟨?_, by omega, fun i hi => q1 i (by omega) (by omega)⟩
    intro i j hij
    induction j with
    | zero => omega
    | succ j ih =>
      intro hj
      have := q3 j (by omega) (by omega)
      rcases Nat.lt_succ_iff_lt_or_eq.1 hij with h | rfl
      · have := ih h (by omega); omega
      · exact this
section
variable (r f : Int) (off n c off2 m c2 : Nat) (cs cs2 : List Value) (own own2 : Bool) (l : Nat → Ab) (st : Nat → Int)
theorem c72a (hc : AbC cs off n l) (hc2 : IvC cs2 off2 m st) (he : ptdE r f n l m st = 0) : LL.run 72 [shV r f 0 off n c, stV 1 off2 m c2] [.cells cs 3 true own, .cells cs2 1 true own2] = some ⟨.tuple #[ptV r f 0 off n c 1 off2 m c2, iv 0], [], []⟩ := by
  refine go (by decide) ?_
  rw [run72 _ _ _ (by simp)]
  have a1 := fun bx => k22 r f 0 off n c (h := .cells cs 3 true own :: bx) l rfl hc
  unfold ptdE at he
  by_cases h1 : chkS r f n l = 0
  · rw [if_neg (by simp [h1])] at he
    have h4 := (asc_of he).2.1
    unfold stpS at he
    rw [if_neg (by omega)] at he
    have this := l72 r f off n c off2 m c2 cs cs2 own own2 st hc2 h4 m 0 (-1) (by omega)
    rw [if_pos he] at this
    simp only [Int.natCast_zero] at this
    have h4' : ¬ (40 : Int) < m := by omega
    simp (maxSteps := 1000000) (disch := first | omega | decide | assumption | simp [scal]) [za_115, loadA_eq ia_24, o_build za_115 pl_115, sz_115, lenA_sl lk_25, o_indexAddrS es_25, loadA_eq ia_3, loadA_eq ia_115, a1, h1, h4', this]
  · rw [if_pos h1] at he; exact absurd he h1
theorem c72b (hc : AbC cs off n l) (hc2 : IvC cs2 off2 m st) (he : ptdE r f n l m st ≠ 0) : LL.run 72 [shV r f 0 off n c, stV 1 off2 m c2] [.cells cs 3 true own, .cells cs2 1 true own2] = some ⟨.tuple #[zV 2 3, iv (ptdE r f n l m st)], [E3, E1], []⟩ := by
  refine go (by decide) ?_
  rw [run72 _ _ _ (by simp)]
  have a1 := fun bx => k22 r f 0 off n c (h := .cells cs 3 true own :: bx) l rfl hc
  unfold ptdE at he ⊢
  by_cases h1 : chkS r f n l = 0
  · rw [if_neg (by simp [h1])] at he ⊢
    by_cases h4 : 40 < m
    · have h4' : (40 : Int) < m := by omega
      have hs : stpS m st = 3 := by unfold stpS; rw [if_pos h4]
      simp (maxSteps := 1000000) (disch := first | omega | decide | assumption | simp [scal]) [za_115, loadA_eq ia_24, o_build za_115 pl_115, sz_115, lenA_sl lk_25, o_indexAddrS es_25, loadA_eq ia_3, loadA_eq ia_115, a1, h1, h4', hs]
    · have hs : stpS m st = stpL st m 0 (-1) := by unfold stpS; rw [if_neg h4]
      rw [hs] at he ⊢
      have this := l72 r f off n c off2 m c2 cs cs2 own own2 st hc2 (by omega) m 0 (-1) (by omega)
      rw [if_neg he] at this
      simp only [Int.natCast_zero] at this
      have h4' : ¬ (40 : Int) < m := by omega
      simp (maxSteps := 1000000) (disch := first | omega | decide | assumption | simp [scal]) [za_115, loadA_eq ia_24, o_build za_115 pl_115, sz_115, lenA_sl lk_25, o_indexAddrS es_25, loadA_eq ia_3, loadA_eq ia_115, a1, h1, h4', this]
  · rw [if_pos h1] at he ⊢
    simp (maxSteps := 1000000) (disch := first | omega | decide | assumption | simp [scal]) [za_115, loadA_eq ia_24, o_build za_115 pl_115, sz_115, lenA_sl lk_25, o_indexAddrS es_25, loadA_eq ia_3, loadA_eq ia_115, a1, h1]
end
section
variable (r f : Int) (b1 off n c b2 off2 m c2 : Nat) {cs cs2 : List Value} {own own2 : Bool} {l : Nat → Ab} {st : Nat → Int} (out : Int) {h : List Blk}
theorem ss_ren (hne : b1 ≠ b2) : optAll (renV (idx [b1, b2]) dep) [shV r f b1 off n c, stV b2 off2 m c2] = some [shV r f 0 off n c, stV 1 off2 m c2] := by simp [renV, dep, optAll, idx, nbeq, hne, hne.symm]
theorem k72a (hb : h[b1]? = some (.cells cs 3 true own)) (hb2 : h[b2]? = some (.cells cs2 1 true own2)) (hne : b1 ≠ b2) (hc : AbC cs off n l) (hc2 : IvC cs2 off2 m st) (he : ptdE r f n l m st = 0) :
    callH LL 72 [shV r f b1 off n c, stV b2 off2 m c2] h = some ⟨.tuple #[ptV r f b1 off n c b2 off2 m c2, iv 0], h, [b1, b2], []⟩ := by
  have e := c72a r f off n c off2 m c2 cs cs2 own own2 l st hc hc2 he
  have := callN_2 (E := LL) (v' := .tuple #[ptV r f b1 off n c b2 off2 m c2, iv 0]) rfl hb hb2 hne noIdB_flat noIdB_flat (ss_ren r f b1 off n c b2 off2 m c2 hne) e (by simp) (by simp [renV, dep, optAll, nblt])
  simpa using this
theorem k72b (hb : h[b1]? = some (.cells cs 3 true own)) (hb2 : h[b2]? = some (.cells cs2 1 true own2)) (hne : b1 ≠ b2) (hc : AbC cs off n l) (hc2 : IvC cs2 off2 m st) (he : ptdE r f n l m st ≠ 0) :
    callH LL 72 [shV r f b1 off n c, stV b2 off2 m c2] h = some ⟨.tuple #[zV h.length (h.length + 1), iv (ptdE r f n l m st)], h ++ [E3, E1], [b1, b2], []⟩ :=
  callN_2 rfl hb hb2 hne noIdB_flat noIdB_flat (ss_ren r f b1 off n c b2 off2 m c2 hne) (c72b r f off n c off2 m c2 cs cs2 own own2 l st hc hc2 he) (by intro b hb; simp at hb; rcases hb with rfl | rfl <;> exact noIdB_flat) (by simp [renV, dep, optAll, nblt])
theorem k73 (S : Sht r f n l) (hb : h[b1]? = some (.cells cs 3 true own)) (hb2 : h[b2]? = some (.cells cs2 1 true own2)) (hne : b1 ≠ b2) (hc : AbC cs off n l) (hc2 : IvC cs2 off2 m st) (ha : Asc m st) (hm : m ≤ 1000) :
    callH LL 73 [ptV r f b1 off n c b2 off2 m c2, iv out] h = some ⟨.bool (!clashS r f n l m st out), h, [b1, b2], []⟩ :=
  callH_2 rfl hb hb2 hne noIdB_flat noIdB_flat (args' := [ptV r f 0 off n c 1 off2 m c2, iv out]) (by simp [renV, dep, optAll, idx, nbeq, hne, hne.symm]) (c73 r f off n c off2 m c2 cs cs2 own own2 out l st S hc hc2 ha hm) fun _ => rfl
end
/-- the error of explaining -/
noncomputable def expE (r f : Int) (n : Nat) (l : Nat → Ab) (m : Nat) (st : Nat → Int) : Int := if ptdE r f n l m st ≠ 0 then ptdE r f n l m st else if clashS r f n l m st (-1) then 13 else 0
theorem ptd_chk {r f : Int} {n : Nat} {l : Nat → Ab} {m : Nat} {st : Nat → Int} (h : ptdE r f n l m st = 0) : Sht r f n l ∧ Asc m st ∧ m ≤ 40 := by
  unfold ptdE at h
  split at h
  · rename_i h1; exact absurd h h1
  · rename_i h1
    have := asc_of h
    exact ⟨chkS_zero (by simpa using h1), this.1, this.2.1⟩
section
variable (r f : Int) (off n c off2 m c2 : Nat) (cs cs2 : List Value) (own own2 : Bool) (l : Nat → Ab) (st : Nat → Int)
theorem c53a (hc : AbC cs off n l) (hc2 : IvC cs2 off2 m st) (he : expE r f n l m st = 0) : LL.run 53 [shV r f 0 off n c, stV 1 off2 m c2] [.cells cs 3 true own, .cells cs2 1 true own2] = some ⟨.tuple #[ptV r f 0 off n c 1 off2 m c2, iv 0], [], []⟩ := by
  refine go (by decide) ?_
  rw [run53 _ _ _ (by simp)]
  unfold expE at he
  by_cases h1 : ptdE r f n l m st = 0
  · rw [if_neg (by simp [h1])] at he
    obtain ⟨S, ha, hm⟩ := ptd_chk h1
    have a1 := fun bx => k72a r f 0 off n c 1 off2 m c2 (h := .cells cs 3 true own :: .cells cs2 1 true own2 :: bx) rfl rfl (by decide) hc hc2 h1
    have a2 := fun bx => k73 r f 0 off n c 1 off2 m c2 (-1) (h := .cells cs 3 true own :: .cells cs2 1 true own2 :: bx) S rfl rfl (by decide) hc hc2 ha (by omega)
    rcases Bool.eq_false_or_eq_true (clashS r f n l m st (-1)) with w | w
    · rw [w] at he; simp at he
    · rw [w] at a2
      simp (maxSteps := 1000000) (disch := first | omega | decide | assumption | simp [scal]) [za_115, loadA_eq ia_24, sz_115, loadA_eq ia_115, o_build za_115 pl_115, want_some q53_6g2, a1, a2]
  · rw [if_pos h1] at he; exact absurd he h1
theorem c53b (hc : AbC cs off n l) (hc2 : IvC cs2 off2 m st) (he : expE r f n l m st ≠ 0) : LL.run 53 [shV r f 0 off n c, stV 1 off2 m c2] [.cells cs 3 true own, .cells cs2 1 true own2] = some ⟨.tuple #[zV 2 3, iv (expE r f n l m st)], [E3, E1], []⟩ := by
  refine go (by decide) ?_
  rw [run53 _ _ _ (by simp)]
  unfold expE at he ⊢
  by_cases h1 : ptdE r f n l m st = 0
  · rw [if_neg (by simp [h1])] at he ⊢
    obtain ⟨S, ha, hm⟩ := ptd_chk h1
    have a1 := fun bx => k72a r f 0 off n c 1 off2 m c2 (h := .cells cs 3 true own :: .cells cs2 1 true own2 :: bx) rfl rfl (by decide) hc hc2 h1
    have a2 := fun bx => k73 r f 0 off n c 1 off2 m c2 (-1) (h := .cells cs 3 true own :: .cells cs2 1 true own2 :: bx) S rfl rfl (by decide) hc hc2 ha (by omega)
    rcases Bool.eq_false_or_eq_true (clashS r f n l m st (-1)) with w | w
    · rw [w] at a2 ⊢
      simp (maxSteps := 1000000) (disch := first | omega | decide | assumption | simp [scal]) [za_115, loadA_eq ia_24, sz_115, loadA_eq ia_115, o_build za_115 pl_115, want_some q53_6g2, a1, a2]
    · rw [w] at he; simp at he
  · rw [if_pos h1] at he ⊢
    have a1 := fun bx => k72b r f 0 off n c 1 off2 m c2 (h := .cells cs 3 true own :: .cells cs2 1 true own2 :: bx) rfl rfl (by decide) hc hc2 h1
    simp (maxSteps := 1000000) (disch := first | omega | decide | assumption | simp [scal]) [za_115, loadA_eq ia_24, sz_115, loadA_eq ia_115, o_build za_115 pl_115, want_some q53_6g2, a1, h1]
end
end Go.Proofs.Ytiafgimgcbmgaaa.bl
namespace Go.Proofs.Ytiafgimgcbmgaaa.bl
open Go.GE
set_option linter.unusedVariables false
set_option linter.unusedSimpArgs false
set_option maxRecDepth 100000
set_option maxHeartbeats 4000000
attribute [local simp] runOps_nil runOps_cons runOpsF_nil runOpsF_cons fstS_some fstF_some opStep_eq want_none oStep_true oStep_false fin_pure fin_read fin_alloc fin_write storeB wrN cellV addWr o_move o_assign o_pick o_alloc o_box o_load o_store o_nilCheck o_bin o_un o_extract o_callV o_callB o_callI callV_f callV_y callV_fc o_makeFunc partsA Instr.fill builtin_len builtin_max2 bin_add bin_sub bin_mul bin_quo bin_rem bin_lss bin_leq bin_gtr bin_geq bin_eql bin_neq un_neg un_not bin_shr bin_shl wrap_u64_id opd opds optAll putO nbeq nblt constOk isC ops sub cl cr co bodyOf thenS_normal thenS_ret thenS_exit thenS_goto afterN_normal afterN_ret afterN_exit afterN_goto condS_true condS_false blockS_normal blockS_ret blockS_exit blockS_goto headS normS normK_eq fixS_nil fixS_cons fix1 fixV emptyB keepO_nil keepO_cons roundC_normal roundC_exit roundC_ret roundC_goto sweep_eq sweepD rnm pickR pickW rootsB ptrT renT ptrFn renFn ptrB_flat ptrB_non renB_flat renB_non plainS_some drawS_some fpsOk disj unord range' dropTo enumT undef wrap_i64_id Value.cells mkCells ptrTo scal cellsAt rdN endS_ret resultsA Option.bind_some tupV finish reachN dep ptrL_eq ptrL renL_eq renL ptrV_bool ptrV_int ptrV_string ptrV_nilFunc ptrV_nilIface ptrV_nilPtr ptrV_ptr ptrV_nilSl ptrV_sl ptrV_iface ptrV_agg ptrV_tuple ptrV_func renV_bool renV_int renV_string renV_nilFunc renV_nilIface renV_nilPtr renV_ptr renV_nilSl renV_sl renV_iface renV_agg renV_tuple renV_func gotoS_goto gotoS_normal gotoS_exit gotoS_ret skip_seq sliceE bnd bndHi intOf optOpd keepT_nil keepT_cons keepC_t keepC_f lk_nil lk_cons lkC_t lkC_f has_nil has_cons hasC_t hasC_f rep_nil rep_cons repC_t repC_f put_eq putC_t putC_f mem_nil mem_cons memC_t memC_f idx_nil idx_cons idxC_t idxC_f reach_nil reach_cons reachC_t reachC_f
attribute [local simp] n20_1s n20_3s n20_5s n20_6s n20_4s n20_2s n20_0s Try.f20
section
variable (r f : Int) (b1 off n c b2 off2 m c2 : Nat) {cs cs2 : List Value} {own own2 : Bool} {l : Nat → Ab} {st : Nat → Int} {h : List Blk}
theorem k53a (hb : h[b1]? = some (.cells cs 3 true own)) (hb2 : h[b2]? = some (.cells cs2 1 true own2)) (hne : b1 ≠ b2) (hc : AbC cs off n l) (hc2 : IvC cs2 off2 m st) (he : expE r f n l m st = 0) :
    callH LL 53 [shV r f b1 off n c, stV b2 off2 m c2] h = some ⟨.tuple #[ptV r f b1 off n c b2 off2 m c2, iv 0], h, [b1, b2], []⟩ := by
  have e := c53a r f off n c off2 m c2 cs cs2 own own2 l st hc hc2 he
  have := callN_2 (E := LL) (v' := .tuple #[ptV r f b1 off n c b2 off2 m c2, iv 0]) rfl hb hb2 hne noIdB_flat noIdB_flat (ss_ren r f b1 off n c b2 off2 m c2 hne) e (by simp) (by simp [renV, dep, optAll, nblt])
  simpa using this
theorem k53b (hb : h[b1]? = some (.cells cs 3 true own)) (hb2 : h[b2]? = some (.cells cs2 1 true own2)) (hne : b1 ≠ b2) (hc : AbC cs off n l) (hc2 : IvC cs2 off2 m st) (he : expE r f n l m st ≠ 0) :
    callH LL 53 [shV r f b1 off n c, stV b2 off2 m c2] h = some ⟨.tuple #[zV h.length (h.length + 1), iv (expE r f n l m st)], h ++ [E3, E1], [b1, b2], []⟩ :=
  callN_2 rfl hb hb2 hne noIdB_flat noIdB_flat (ss_ren r f b1 off n c b2 off2 m c2 hne) (c53b r f off n c off2 m c2 cs cs2 own own2 l st hc hc2 he) (by intro b hb; simp at hb; rcases hb with rfl | rfl <;> exact noIdB_flat) (by simp [renV, dep, optAll, nblt])
theorem k20 (hb : h[b1]? = some (.cells cs 3 true own)) (hb2 : h[b2]? = some (.cells cs2 1 true own2)) (hne : b1 ≠ b2) (hc : AbC cs off n l) (hc2 : IvC cs2 off2 m st) :
    callH LL 20 [shV r f b1 off n c, stV b2 off2 m c2] h = some ⟨iv (expE r f n l m st), h, [b1, b2], []⟩ := by
  refine callH_2 rfl hb hb2 hne noIdB_flat noIdB_flat (ss_ren r f b1 off n c b2 off2 m c2 hne) (go (by decide) ?_) fun _ => rfl
  rw [run20 _ _ _ (by simp)]
  by_cases he : expE r f n l m st = 0
  · have a := fun bx => k53a r f 0 off n c 1 off2 m c2 (h := .cells cs 3 true own :: .cells cs2 1 true own2 :: bx) rfl rfl (by decide) hc hc2 he
    simp (maxSteps := 1000000) (disch := first | omega | decide | assumption | simp [scal]) [loadA_eq ia_24, za_115, sz_115, loadA_eq ia_115, a, he]
  · have a := fun bx => k53b r f 0 off n c 1 off2 m c2 (h := .cells cs 3 true own :: .cells cs2 1 true own2 :: bx) rfl rfl (by decide) hc hc2 he
    simp (maxSteps := 1000000) (disch := first | omega | decide | assumption | simp [scal]) [loadA_eq ia_24, za_115, sz_115, loadA_eq ia_115, a]
end
end Go.Proofs.Ytiafgimgcbmgaaa.bl
namespace Go.Proofs.Ytiafgimgcbmgaaa.bl
open Go.GE
set_option linter.unusedVariables false
set_option linter.unusedSimpArgs false
set_option maxRecDepth 100000
set_option maxHeartbeats 4000000
attribute [local simp] runOps_nil runOps_cons runOpsF_nil runOpsF_cons fstS_some fstF_some opStep_eq want_none oStep_true oStep_false fin_pure fin_read fin_alloc fin_write storeB wrN cellV addWr o_move o_assign o_pick o_alloc o_box o_load o_store o_nilCheck o_bin o_un o_extract o_callV o_callB o_callI callV_f callV_y callV_fc o_makeFunc partsA Instr.fill builtin_len builtin_max2 bin_add bin_sub bin_mul bin_quo bin_rem bin_lss bin_leq bin_gtr bin_geq bin_eql bin_neq un_neg un_not bin_shr bin_shl wrap_u64_id opd opds optAll putO nbeq nblt constOk isC ops sub cl cr co bodyOf thenS_normal thenS_ret thenS_exit thenS_goto afterN_normal afterN_ret afterN_exit afterN_goto condS_true condS_false blockS_normal blockS_ret blockS_exit blockS_goto headS normS normK_eq fixS_nil fixS_cons fix1 fixV emptyB keepO_nil keepO_cons roundC_normal roundC_exit roundC_ret roundC_goto sweep_eq sweepD rnm pickR pickW rootsB ptrT renT ptrFn renFn ptrB_flat ptrB_non renB_flat renB_non plainS_some drawS_some fpsOk disj unord range' dropTo enumT undef wrap_i64_id Value.cells mkCells ptrTo scal cellsAt rdN endS_ret resultsA Option.bind_some tupV finish reachN dep ptrL_eq ptrL renL_eq renL ptrV_bool ptrV_int ptrV_string ptrV_nilFunc ptrV_nilIface ptrV_nilPtr ptrV_ptr ptrV_nilSl ptrV_sl ptrV_iface ptrV_agg ptrV_tuple ptrV_func renV_bool renV_int renV_string renV_nilFunc renV_nilIface renV_nilPtr renV_ptr renV_nilSl renV_sl renV_iface renV_agg renV_tuple renV_func gotoS_goto gotoS_normal gotoS_exit gotoS_ret skip_seq sliceE bnd bndHi intOf optOpd keepT_nil keepT_cons keepC_t keepC_f lk_nil lk_cons lkC_t lkC_f has_nil has_cons hasC_t hasC_f rep_nil rep_cons repC_t repC_f put_eq putC_t putC_f mem_nil mem_cons memC_t memC_f idx_nil idx_cons idxC_t idxC_f reach_nil reach_cons reachC_t reachC_f
attribute [local simp] n83_1s n83_3s n83_4s n83_2s n83_0s Try.f83 n82_1s n82_4s n82_8s n82_11s n82_12s n82_10s n82_16s n82_18s n82_21s n82_22s n82_20s n82_23s n82_19s n82_17s n82_15s n82_14s n82_24s n82_13s n82_9s n82_7s n82_6s n82_6g n82_5s n82_3s n82_26s n82_27s n82_25s n82_2s n82_0s Try.f82
/-- the first that serves, or -1 -/
def findL (P : Nat → Bool) : Nat → Nat → Int
  | 0, _ => -1
  | k + 1, i => if P i then i else findL P k (i + 1)
abbrev cl83 (b k : Nat) : Value := .func (.func 83) #[] #[pp b, pp k]
section
variable (r f : Int) (off n c : Nat) {cs : List Value} {own : Bool} {l : Nat → Ab}
theorem k83 (S : Sht r f n l) (hc : AbC cs off n l) (k : Nat) (hk : k < n) (a : Ab) (A : OkA a) (rest : List Blk) :
    callH LL 83 [abV a, pp 1, pp 2] (.cells cs 3 true own :: shB r f 0 off n c :: c1 k :: rest) = some ⟨.bool (needS r f a (l k)), .cells cs 3 true own :: shB r f 0 off n c :: c1 k :: rest, [1, 0, 2], []⟩ := by
  have e : LL.run 83 [abV a, pp 0, pp 2] [shB r f 1 off n c, .cells cs 3 true own, c1 k] = some ⟨.bool (needS r f a (l k)), [], []⟩ := by
    refine go (by decide) ?_
    rw [run83 _ _ _ (by simp)]
    obtain ⟨p2, p3, p4⟩ := hc k hk
    have a1 := fun bx rest => k58 r f 1 off n c (h := bx :: .cells cs 3 true own :: rest) (cs := cs) (own := own) S.dr a A (l k) (S.ok k hk) rfl
    simp (maxSteps := 1000000) (disch := first | omega | decide | assumption | simp [scal]) [loadA_eq ia_24, loadA_eq ia_59, o_fieldAddr fa_24_2 (by decide), loadA_eq ia_22, loadA_eq ia_3, o_indexAddrS es_22, p2, p3, p4, hk, a1]
  refine callH_of (by intro _; first | trivial | rfl) ?_ (by simp)
  unfold callH0
  have hp : ([abV a, pp 1, pp 2] : List Value).flatMap (ptrV dep) = [1, 2] := rfl
  have hm : ∀ q : Nat, 20 < q → reach (.cells cs 3 true own :: shB r f 0 off n c :: c1 k :: rest) 0 q [1, 2] [] = [1, 0, 2] := by
    intro q hq
    obtain ⟨q, rfl⟩ : ∃ j, q = j + 20 := ⟨q - 20, by omega⟩
    simp [reach_cons, reachC_t, reachC_f, reach_nil, rootsB, GE.mem, nblt, nbeq, ptrB, ptrV_sl, ptrV_int, dep]
  simp only [hp, hm reachN (by decide)]
  simp [optAll, renL, renV_ptr, dep, idx, nbeq, renB, renL_eq, renV_int, renV_sl, renV_agg, e, mergeB, renV_bool]
theorem l82 (S : Sht r f n l) (hc : AbC cs off n l) (k : Nat) (hk : k < n) (first q0 c' : Nat) (hq0 : first + q0 ≤ n) : ∀ q i : Nat, i + q = q0 →
    lpB Try.prog LL ⟨82, 19, 3, none⟩ n82_6 n82_7 ⟨[(0, .slice (some ⟨0, off + first * 3, none⟩) q0 c'), (1, cl83 1 2), (7, iv q0), (8, iv i)], [.cells cs 3 true own, shB r f 0 off n c, c1 k], []⟩ =
      if findL (fun i => needS r f (l (first + i)) (l k)) q i = -1 then some (.exit 0, ⟨[], [.cells cs 3 true own, shB r f 0 off n c, c1 k], []⟩)
      else some (.ret, ⟨[(4, iv (findL (fun i => needS r f (l (first + i)) (l k)) q i))], [.cells cs 3 true own, shB r f 0 off n c, c1 k], []⟩) := by
  have hn := S.n40
  intro q
  induction q with
  | zero =>
    intro i hi
    obtain rfl : i = q0 := by omega
    rw [lpB_eq]
    simp (maxSteps := 1000000) (disch := first | omega | decide | assumption | simp [scal]) [lenA_sl lk_22, o_indexAddrS es_22, loadA_eq ia_59, findL]
  | succ q ih =>
    intro i hi
    have e1 : i < q0 := by omega
    have e0 : first + i < n := by omega
    have this := ih (i + 1) (by omega)
    simp only [cast1] at this
    obtain ⟨p2, p3, p4⟩ := hc _ e0
    rw [show off + (first + i) * 3 = off + first * 3 + i * 3 by omega] at p2 p3 p4
    have a1 := k83 r f off n c (cs := cs) (own := own) S hc k hk (l (first + i)) (S.ok _ e0)
    rw [lpB_eq]
    rcases Bool.eq_false_or_eq_true (needS r f (l (first + i)) (l k)) with w | w
    · have hne : ¬ ((i : Int) = -1) := by omega
      rw [w] at a1
      simp (maxSteps := 1000000) (disch := first | omega | decide | assumption | simp [scal]) [lenA_sl lk_22, o_indexAddrS es_22, loadA_eq ia_59, findL, e1, p2, p3, p4, a1, w, hne]
    · rw [w] at a1
      simp (maxSteps := 1000000) (disch := first | omega | decide | assumption | simp [scal]) [lenA_sl lk_22, o_indexAddrS es_22, loadA_eq ia_59, findL, e1, p2, p3, p4, a1, w, this]
theorem c82 (S : Sht r f n l) (hc : AbC cs off n l) (k : Nat) (hk : k < n) (first q0 c' : Nat) (hq0 : first + q0 ≤ n) :
    LL.run 82 [.slice (some ⟨0, off + first * 3, none⟩) q0 c', cl83 1 2] [.cells cs 3 true own, shB r f 0 off n c, c1 k] = some ⟨iv (findL (fun i => needS r f (l (first + i)) (l k)) q0 0), [], []⟩ := by
  refine go (by decide) ?_
  rw [run82 _ _ _ (by simp)]
  have hn := S.n40
  have this := l82 r f off n c (own := own) S hc k hk first q0 c' hq0 q0 0 (by omega)
  simp only [Int.natCast_zero] at this
  by_cases w : findL (fun i => needS r f (l (first + i)) (l k)) q0 0 = -1
  · rw [if_pos w] at this
    simp (maxSteps := 1000000) (disch := first | omega | decide | assumption | simp [scal]) [lenA_sl lk_22, o_indexAddrS es_22, loadA_eq ia_59, this, w]
  · rw [if_neg w] at this
    simp (maxSteps := 1000000) (disch := first | omega | decide | assumption | simp [scal]) [lenA_sl lk_22, o_indexAddrS es_22, loadA_eq ia_59, this]
theorem k82 (S : Sht r f n l) (hc : AbC cs off n l) (k : Nat) (hk : k < n) (first q0 c' : Nat) (hq0 : first + q0 ≤ n) (b : Blk) (rest : List Blk) :
    callH LL 82 [.slice (some ⟨0, off + first * 3, none⟩) q0 c', cl83 1 3] (.cells cs 3 true own :: shB r f 0 off n c :: b :: c1 k :: rest) =
      some ⟨iv (findL (fun i => needS r f (l (first + i)) (l k)) q0 0), .cells cs 3 true own :: shB r f 0 off n c :: b :: c1 k :: rest, [0, 1, 3], []⟩ := by
  have e := c82 r f off n c (own := own) S hc k hk first q0 c' hq0
  refine callH_of (by intro _; first | trivial | rfl) ?_ (by simp)
  unfold callH0
  have hp : ([.slice (some ⟨0, off + first * 3, none⟩) q0 c', cl83 1 3] : List Value).flatMap (ptrV dep) = [0, 1, 3] := rfl
  have hm : ∀ q : Nat, 20 < q → reach (.cells cs 3 true own :: shB r f 0 off n c :: b :: c1 k :: rest) 0 q [0, 1, 3] [] = [0, 1, 3] := by
    intro q hq
    obtain ⟨q, rfl⟩ : ∃ j, q = j + 20 := ⟨q - 20, by omega⟩
    simp [reach_cons, reachC_t, reachC_f, reach_nil, rootsB, GE.mem, nblt, nbeq, ptrB, ptrV_sl, ptrV_int, dep]
  simp only [hp, hm reachN (by decide)]
  simp [optAll, renL, renV_func, renFn, renV_ptr, dep, idx, nbeq, renB, renL_eq, renV_int, renV_sl, renV_agg, e, mergeB, renV_bool]
end
end Go.Proofs.Ytiafgimgcbmgaaa.bl
namespace Go.Proofs.Ytiafgimgcbmgaaa.bl
open Go.GE
set_option linter.unusedVariables false
set_option linter.unusedSimpArgs false
set_option maxRecDepth 100000
set_option maxHeartbeats 4000000
attribute [local simp] runOps_nil runOps_cons runOpsF_nil runOpsF_cons fstS_some fstF_some opStep_eq want_none oStep_true oStep_false fin_pure fin_read fin_alloc fin_write storeB wrN cellV addWr o_move o_assign o_pick o_alloc o_box o_load o_store o_nilCheck o_bin o_un o_extract o_callV o_callB o_callI callV_f callV_y callV_fc o_makeFunc partsA Instr.fill builtin_len builtin_max2 bin_add bin_sub bin_mul bin_quo bin_rem bin_lss bin_leq bin_gtr bin_geq bin_eql bin_neq un_neg un_not bin_shr bin_shl wrap_u64_id opd opds optAll putO nbeq nblt constOk isC ops sub cl cr co bodyOf thenS_normal thenS_ret thenS_exit thenS_goto afterN_normal afterN_ret afterN_exit afterN_goto condS_true condS_false blockS_normal blockS_ret blockS_exit blockS_goto headS normS normK_eq fixS_nil fixS_cons fix1 fixV emptyB keepO_nil keepO_cons roundC_normal roundC_exit roundC_ret roundC_goto sweep_eq sweepD rnm pickR pickW rootsB ptrT renT ptrFn renFn ptrB_flat ptrB_non renB_flat renB_non plainS_some drawS_some fpsOk disj unord range' dropTo enumT undef wrap_i64_id Value.cells mkCells ptrTo scal cellsAt rdN endS_ret resultsA Option.bind_some tupV finish reachN dep ptrL_eq ptrL renL_eq renL ptrV_bool ptrV_int ptrV_string ptrV_nilFunc ptrV_nilIface ptrV_nilPtr ptrV_ptr ptrV_nilSl ptrV_sl ptrV_iface ptrV_agg ptrV_tuple ptrV_func renV_bool renV_int renV_string renV_nilFunc renV_nilIface renV_nilPtr renV_ptr renV_nilSl renV_sl renV_iface renV_agg renV_tuple renV_func gotoS_goto gotoS_normal gotoS_exit gotoS_ret skip_seq sliceE bnd bndHi intOf optOpd keepT_nil keepT_cons keepC_t keepC_f lk_nil lk_cons lkC_t lkC_f has_nil has_cons hasC_t hasC_f rep_nil rep_cons repC_t repC_f put_eq putC_t putC_f mem_nil mem_cons memC_t memC_f idx_nil idx_cons idxC_t idxC_f reach_nil reach_cons reachC_t reachC_f
attribute [local simp] n50_1s n50_4s n50_6s n50_8s n50_11s n50_14s n50_15s n50_13s n50_16s n50_12s n50_10s n50_19s n50_21s n50_24s n50_25s n50_23s n50_26s n50_22s n50_20s n50_18s n50_28s n50_29s n50_27s n50_17s n50_9s n50_7s n50_5s n50_3s n50_2s n50_2j0 n50_2i0 n50_0s Try.f50
theorem findL_spec {P : Nat → Bool} : ∀ k i, (findL P k i = -1 ∧ ∀ j, i ≤ j → j < i + k → P j = false) ∨ ∃ j : Nat, findL P k i = j ∧ i ≤ j ∧ j < i + k ∧ P j = true ∧ ∀ m, i ≤ m → m < j → P m = false := by
  intro k
  induction k with
  | zero => intro i; exact .inl ⟨rfl, fun j h1 h2 => by omega⟩
  | succ k ih =>
    intro i
    unfold findL
    rcases Bool.eq_false_or_eq_true (P i) with w | w
    · rw [if_pos w]; exact .inr ⟨i, rfl, by omega, by omega, w, fun m h1 h2 => by omega⟩
    · rw [if_neg (by simp [w])]
      rcases ih (i + 1) with ⟨h1, h2⟩ | ⟨j, h1, h2, h3, h4, h5⟩
      · refine .inl ⟨h1, fun j a b => ?_⟩
        rcases Nat.eq_or_lt_of_le a with rfl | a
        · exact w
        · exact h2 j (by omega) (by omega)
      · refine .inr ⟨j, h1, by omega, by omega, h4, fun m a b => ?_⟩
        rcases Nat.eq_or_lt_of_le a with rfl | a
        · exact w
        · exact h5 m (by omega) b
/-- pairs that are apart and need a step each -/
def fewL (r f : Int) (l : Nat → Ab) : Nat → Nat → Nat → List (Nat × Nat) → List (Nat × Nat)
  | 0, _, _, a => a
  | q + 1, k, first, a =>
    let i := findL (fun i => needS r f (l (first + i)) (l k)) (k - first) 0
    if i = -1 then fewL r f l q (k + 1) first a else fewL r f l q (k + 1) k (a ++ [(first + i.toNat, k)])
def prG (q : Nat × Nat) : List Value := [iv q.1, iv q.2]
def prB (a : List (Nat × Nat)) : Blk := .cells (a.flatMap prG) 2 true true
theorem prB_len (a : List (Nat × Nat)) : (a.flatMap prG).length = a.length * 2 := flat_len (g := prG) fun _ => rfl
theorem prB_flat {a : List (Nat × Nat)} : ptrB (prB a) = [] := rfl
theorem prB_ren {g : Nat → Option Nat} {a : List (Nat × Nat)} : renB g (prB a) = some (prB a) := rfl
section
variable (r f : Int) (off n c : Nat) {cs : List Value} {own : Bool} {l : Nat → Ab}
theorem s50 (S : Sht r f n l) (hc : AbC cs off n l) (hnc : n ≤ c) : ∀ q k first (a : List (Nat × Nat)), k + q = n → first ≤ k → a.length ≤ k →
    scpL Try.prog LL ⟨50, 33, 1, none⟩ n50_3 r50_0 ⟨[(1, pp 1), (3, .slice (some ⟨2, 0, none⟩) a.length a.length), (4, iv first), (5, pp 3)], [.cells cs 3 true own, shB r f 0 off n c, prB a, c1 k], []⟩ =
      some (.ret, ⟨[(2, .slice (some ⟨1, 0, none⟩) (fewL r f l q k first a).length (fewL r f l q k first a).length)], [.cells cs 3 true own, prB (fewL r f l q k first a)], []⟩) := by
  have hn := S.n40
  intro q
  induction q with
  | zero =>
    intro k first a hk hf ha
    obtain rfl : k = n := by omega
    rw [scpL_eq]
    simp (maxSteps := 1000000) (disch := first | omega | decide | assumption | simp [scal]) [za_3, sz_3, loadA_eq ia_3, o_fieldAddr fa_24_2 (by decide), loadA_eq ia_22, lenA_sl lk_22, o_sliceS sl_22, za_95, o_build za_95 pl_95, o_indexAddrS es_41, ze_41, o_buildSlice es_41 ze_41 (by decide) ba_41_1, ap_41, builtin_append ni_41, fewL, prB_flat, prB_ren]
  | succ q ih =>
    intro k first a hk hf ha
    have e1 : k < n := by omega
    have e1' : ¬ (k : Int) = n := by omega
    have e2 : (k : Int) ≤ c := by omega
    have e3 : (first : Int) ≤ k := by omega
    have a1 := k82 r f off n c (own := own) S hc k e1 first (k - first) (c - first) (by omega) (prB a)
    rw [scpL_eq]
    rcases findL_spec (P := fun i => needS r f (l (first + i)) (l k)) (k - first) 0 with ⟨w, _⟩ | ⟨j, w, _, w2, _⟩
    · have this := ih (k + 1) first a (by omega) (by omega) (by omega)
      have hf : fewL r f l (q + 1) k first a = fewL r f l q (k + 1) first a := by simp only [fewL]; rw [if_pos w]
      rw [hf]
      rw [w] at a1
      simp only [cast1] at this
      simp (maxSteps := 1000000) (disch := first | omega | decide | assumption | simp [scal]) [za_3, sz_3, loadA_eq ia_3, o_fieldAddr fa_24_2 (by decide), loadA_eq ia_22, lenA_sl lk_22, o_sliceS sl_22, za_95, o_build za_95 pl_95, o_indexAddrS es_41, ze_41, o_buildSlice es_41 ze_41 (by decide) ba_41_1, ap_41, builtin_append ni_41, prB_flat, prB_ren, e1', e2, e3, a1, this]
    · have this := ih (k + 1) k (a ++ [(first + j, k)]) (by omega) (by omega) (by simp; omega)
      have hf : fewL r f l (q + 1) k first a = fewL r f l q (k + 1) k (a ++ [(first + j, k)]) := by simp only [fewL]; rw [if_neg (by rw [w]; omega), w]; rfl
      rw [hf]
      rw [w] at a1
      have c1 := fun h b c rd => app_list (h := h) (b := b) (c := c) (k := 2) (by' := 16) (l := a.length) (cs := a.flatMap prG) (new := [iv ((first : Int) + j), iv k]) (rd := rd) (prB_len a) (by omega) (by omega) rfl
      have e4 : ¬ ((j : Int) = -1) := by omega
      simp only [cast1, prB, List.flatMap_append, List.flatMap_cons, List.flatMap_nil, List.append_nil, List.length_append, List.length_cons, List.length_nil, Nat.zero_add] at this a1 ⊢
      rw [show prG (first + j, k) = [iv ((first : Int) + j), iv k] from rfl] at this
      simp (maxSteps := 1000000) (disch := first | omega | decide | assumption | simp [scal]) [za_3, sz_3, loadA_eq ia_3, o_fieldAddr fa_24_2 (by decide), loadA_eq ia_22, lenA_sl lk_22, o_sliceS sl_22, za_95, o_build za_95 pl_95, o_indexAddrS es_41, ze_41, o_buildSlice es_41 ze_41 (by decide) ba_41_1, ap_41, builtin_append ni_41, e1', e2, e3, e4, a1, append_some ap_41, srcCells, c1, this]
end
end Go.Proofs.Ytiafgimgcbmgaaa.bl
namespace Go.Proofs.Ytiafgimgcbmgaaa.bl
open Go.GE
set_option linter.unusedVariables false
set_option linter.unusedSimpArgs false
set_option maxRecDepth 100000
set_option maxHeartbeats 4000000
attribute [local simp] runOps_nil runOps_cons runOpsF_nil runOpsF_cons fstS_some fstF_some opStep_eq want_none oStep_true oStep_false fin_pure fin_read fin_alloc fin_write storeB wrN cellV addWr o_move o_assign o_pick o_alloc o_box o_load o_store o_nilCheck o_bin o_un o_extract o_callV o_callB o_callI callV_f callV_y callV_fc o_makeFunc partsA Instr.fill builtin_len builtin_max2 bin_add bin_sub bin_mul bin_quo bin_rem bin_lss bin_leq bin_gtr bin_geq bin_eql bin_neq un_neg un_not bin_shr bin_shl wrap_u64_id opd opds optAll putO nbeq nblt constOk isC ops sub cl cr co bodyOf thenS_normal thenS_ret thenS_exit thenS_goto afterN_normal afterN_ret afterN_exit afterN_goto condS_true condS_false blockS_normal blockS_ret blockS_exit blockS_goto headS normS normK_eq fixS_nil fixS_cons fix1 fixV emptyB keepO_nil keepO_cons roundC_normal roundC_exit roundC_ret roundC_goto sweep_eq sweepD rnm pickR pickW rootsB ptrT renT ptrFn renFn ptrB_flat ptrB_non renB_flat renB_non plainS_some drawS_some fpsOk disj unord range' dropTo enumT undef wrap_i64_id Value.cells mkCells ptrTo scal cellsAt rdN endS_ret resultsA Option.bind_some tupV finish reachN dep ptrL_eq ptrL renL_eq renL ptrV_bool ptrV_int ptrV_string ptrV_nilFunc ptrV_nilIface ptrV_nilPtr ptrV_ptr ptrV_nilSl ptrV_sl ptrV_iface ptrV_agg ptrV_tuple ptrV_func renV_bool renV_int renV_string renV_nilFunc renV_nilIface renV_nilPtr renV_ptr renV_nilSl renV_sl renV_iface renV_agg renV_tuple renV_func gotoS_goto gotoS_normal gotoS_exit gotoS_ret skip_seq sliceE bnd bndHi intOf optOpd keepT_nil keepT_cons keepC_t keepC_f lk_nil lk_cons lkC_t lkC_f has_nil has_cons hasC_t hasC_f rep_nil rep_cons repC_t repC_f put_eq putC_t putC_f mem_nil mem_cons memC_t memC_f idx_nil idx_cons idxC_t idxC_f reach_nil reach_cons reachC_t reachC_f
attribute [local simp] n50_1s n50_4s n50_6s n50_8s n50_11s n50_14s n50_15s n50_13s n50_16s n50_12s n50_10s n50_19s n50_21s n50_24s n50_25s n50_23s n50_26s n50_22s n50_20s n50_18s n50_28s n50_29s n50_27s n50_17s n50_9s n50_7s n50_5s n50_3s n50_2s n50_2j0 n50_2i0 n50_0s Try.f50
def fewS (r f : Int) (l : Nat → Ab) (n : Nat) : List (Nat × Nat) := fewL r f l n 0 0 []
section
variable (r f : Int) (off n c : Nat) {cs : List Value} {own : Bool} {l : Nat → Ab}
theorem c50 (S : Sht r f n l) (hc : AbC cs off n l) (hnc : n ≤ c) : LL.run 50 [shV r f 0 off n c] [.cells cs 3 true own] = some ⟨.slice (some ⟨1, 0, none⟩) (fewS r f l n).length (fewS r f l n).length, [prB (fewS r f l n)], []⟩ := by
  refine go (by decide) ?_
  rw [run50 _ _ _ (by simp)]
  have this := s50 r f off n c (own := own) S hc hnc n 0 0 [] (by omega) (by omega) (by simp)
  rw [scpL_eq, n50_2i0] at this
  simp only [prB, Int.natCast_zero, List.flatMap_nil, List.length_nil] at this
  rw [← fewS] at this
  have hl : ∀ a, prB a = .cells (a.flatMap prG) 2 true true := fun _ => rfl
  simp only [hl]
  simp (maxSteps := 1000000) (disch := first | omega | decide | assumption | simp [scal]) [za_3, sz_3, loadA_eq ia_3, o_fieldAddr fa_24_2 (by decide), loadA_eq ia_22, lenA_sl lk_22, o_sliceS sl_22, za_95, o_build za_95 pl_95, o_indexAddrS es_41, ze_41, o_buildSlice es_41 ze_41 (by decide) ba_41_1, ap_41, builtin_append ni_41, -n50_9s]
  rw [this]
  simp (maxSteps := 1000000) (disch := first | omega | decide | assumption | simp [scal]) [za_3, sz_3, loadA_eq ia_3, o_fieldAddr fa_24_2 (by decide), loadA_eq ia_22, lenA_sl lk_22, o_sliceS sl_22, za_95, o_build za_95 pl_95, o_indexAddrS es_41, ze_41, o_buildSlice es_41 ze_41 (by decide) ba_41_1, ap_41, builtin_append ni_41]
end
end Go.Proofs.Ytiafgimgcbmgaaa.bl
namespace Go.Proofs.Ytiafgimgcbmgaaa.bl
open Go.GE
set_option linter.unusedVariables false
set_option linter.unusedSimpArgs false
set_option maxRecDepth 100000
set_option maxHeartbeats 4000000
attribute [local simp] runOps_nil runOps_cons runOpsF_nil runOpsF_cons fstS_some fstF_some opStep_eq want_none oStep_true oStep_false fin_pure fin_read fin_alloc fin_write storeB wrN cellV addWr o_move o_assign o_pick o_alloc o_box o_load o_store o_nilCheck o_bin o_un o_extract o_callV o_callB o_callI callV_f callV_y callV_fc o_makeFunc partsA Instr.fill builtin_len builtin_max2 bin_add bin_sub bin_mul bin_quo bin_rem bin_lss bin_leq bin_gtr bin_geq bin_eql bin_neq un_neg un_not bin_shr bin_shl wrap_u64_id opd opds optAll putO nbeq nblt constOk isC ops sub cl cr co bodyOf thenS_normal thenS_ret thenS_exit thenS_goto afterN_normal afterN_ret afterN_exit afterN_goto condS_true condS_false blockS_normal blockS_ret blockS_exit blockS_goto headS normS normK_eq fixS_nil fixS_cons fix1 fixV emptyB keepO_nil keepO_cons roundC_normal roundC_exit roundC_ret roundC_goto sweep_eq sweepD rnm pickR pickW rootsB ptrT renT ptrFn renFn ptrB_flat ptrB_non renB_flat renB_non plainS_some drawS_some fpsOk disj unord range' dropTo enumT undef wrap_i64_id Value.cells mkCells ptrTo scal cellsAt rdN endS_ret resultsA Option.bind_some tupV finish reachN dep ptrL_eq ptrL renL_eq renL ptrV_bool ptrV_int ptrV_string ptrV_nilFunc ptrV_nilIface ptrV_nilPtr ptrV_ptr ptrV_nilSl ptrV_sl ptrV_iface ptrV_agg ptrV_tuple ptrV_func renV_bool renV_int renV_string renV_nilFunc renV_nilIface renV_nilPtr renV_ptr renV_nilSl renV_sl renV_iface renV_agg renV_tuple renV_func gotoS_goto gotoS_normal gotoS_exit gotoS_ret skip_seq sliceE bnd bndHi intOf optOpd keepT_nil keepT_cons keepC_t keepC_f lk_nil lk_cons lkC_t lkC_f has_nil has_cons hasC_t hasC_f rep_nil rep_cons repC_t repC_f put_eq putC_t putC_f mem_nil mem_cons memC_t memC_f idx_nil idx_cons idxC_t idxC_f reach_nil reach_cons reachC_t reachC_f
attribute [local simp] n51_1s n51_3s n51_4s n51_2s n51_0s Try.f51 n49_1s n49_3s n49_6s n49_10s n49_13s n49_14s n49_12s n49_18s n49_19s n49_17s n49_16s n49_20s n49_15s n49_11s n49_9s n49_8s n49_8g n49_7s n49_5s n49_22s n49_23s n49_21s n49_4s n49_2s n49_0s Try.f49
def iB (x : List Int) : Blk := .cells (x.map iv) 1 true true
theorem iB_flat {a : List Int} : ptrB (iB a) = [] := rfl
theorem iB_ren {g : Nat → Option Nat} {a : List Int} : renB g (iB a) = some (iB a) := rfl
theorem prG_get {a : List (Nat × Nat)} {i : Nat} {q : Nat × Nat} (h : a[i]? = some q) : (a.flatMap prG)[i * 2]? = some (iv q.1) ∧ (a.flatMap prG)[i * 2 + 1]? = some (iv q.2) :=
  ⟨by have := flat_get (g := prG) (k := 2) (fun _ => rfl) h (j := 0) (by omega); simpa [prG] using this, by have := flat_get (g := prG) (k := 2) (fun _ => rfl) h (j := 1) (by omega); simpa [prG] using this⟩
theorem fewL_mem {r f : Int} {l : Nat → Ab} {n : Nat} : ∀ q k first (a : List (Nat × Nat)), k + q = n → first ≤ k → (∀ p, p ∈ a → p.1 < p.2 ∧ p.2 < n) → ∀ p, p ∈ fewL r f l q k first a → p.1 < p.2 ∧ p.2 < n := by
  intro q
  induction q with
  | zero => intro k first a hk hf ha p hp; exact ha p hp
  | succ q ih =>
    intro k first a hk hf ha p hp
    simp only [fewL] at hp
    split at hp
    · exact ih _ _ _ (by omega) (by omega) ha p hp
    · rename_i w
      rcases findL_spec (P := fun i => needS r f (l (first + i)) (l k)) (k - first) 0 with ⟨w1, _⟩ | ⟨j, w1, _, w2, _⟩
      · exact absurd w1 w
      · refine ih _ _ _ (by omega) (by omega) (fun p hp => ?_) p hp
        rw [List.mem_append, List.mem_singleton] at hp
        rcases hp with hp | rfl
        · exact ha p hp
        · rw [w1]; simp only [Int.toNat_natCast]; omega
theorem fewS_mem {r f : Int} {l : Nat → Ab} {n : Nat} {p : Nat × Nat} (h : p ∈ fewS r f l n) : p.1 < p.2 ∧ p.2 < n := fewL_mem n 0 0 [] (by omega) (by omega) (by simp) p h
theorem fewL_len {r f : Int} {l : Nat → Ab} : ∀ q k first (a : List (Nat × Nat)), (fewL r f l q k first a).length ≤ a.length + q := by
  intro q
  induction q with
  | zero => intro k first a; simp [fewL]
  | succ q ih =>
    intro k first a
    simp only [fewL]
    split
    · have := ih (k + 1) first a; omega
    · have := ih (k + 1) k (a ++ [(first + (findL (fun i => needS r f (l (first + i)) (l k)) (k - first) 0).toNat, k)])
      simp at this ⊢; omega
theorem fewS_len {r f : Int} {l : Nat → Ab} {n : Nat} : (fewS r f l n).length ≤ n := by unfold fewS; have := fewL_len (r := r) (f := f) (l := l) n 0 0 []; simpa using this
abbrev cl51 (b : Nat) : Value := .func (.func 51) #[] #[pp b]
def stpsOf (l : Nat → Ab) (a : List (Nat × Nat)) : List Int := a.map fun q => (l q.2).h - 1
section
variable (r f : Int) (off n c : Nat) {cs : List Value} {own : Bool} {l : Nat → Ab}
theorem k51 (S : Sht r f n l) (hc : AbC cs off n l) (q : Nat × Nat) (hq : q.2 < n) (b : Blk) (rest : List Blk) :
    callH LL 51 [.agg #[iv q.1, iv q.2], pp 1] (b :: shB r f 2 off n c :: .cells cs 3 true own :: rest) = some ⟨iv ((l q.2).h - 1), b :: shB r f 2 off n c :: .cells cs 3 true own :: rest, [1, 2], []⟩ := by
  have e : LL.run 51 [.agg #[iv q.1, iv q.2], pp 0] [shB r f 1 off n c, .cells cs 3 true own] = some ⟨iv ((l q.2).h - 1), [], []⟩ := by
    refine go (by decide) ?_
    rw [run51 _ _ _ (by simp)]
    obtain ⟨p2, p3, p4⟩ := hc _ hq
    obtain ⟨o1, o2, _, _, _⟩ := S.ok _ hq
    simp (maxSteps := 1000000) (disch := first | omega | decide | assumption | simp [scal]) [o_fieldAddr fa_24_2 (by decide), loadA_eq ia_22, o_fieldAddr fa_95_1 (by decide), loadA_eq ia_3, o_indexAddrS es_22, o_fieldAddr fa_59_0 (by decide), p2, p3, p4, hq]
  refine callH_of (by intro _; first | trivial | rfl) ?_ (by simp)
  unfold callH0
  have hp : ([.agg #[iv q.1, iv q.2], pp 1] : List Value).flatMap (ptrV dep) = [1] := rfl
  have hm : ∀ k : Nat, 20 < k → reach (b :: shB r f 2 off n c :: .cells cs 3 true own :: rest) 0 k [1] [] = [1, 2] := by
    intro k hk
    obtain ⟨k, rfl⟩ : ∃ j, k = j + 20 := ⟨k - 20, by omega⟩
    simp [reach_cons, reachC_t, reachC_f, reach_nil, rootsB, GE.mem, nblt, nbeq, ptrB, ptrV_sl, ptrV_int, dep]
  simp only [hp, hm reachN (by decide)]
  simp [optAll, renL, renV_ptr, dep, idx, nbeq, renB, renL_eq, renV_int, renV_sl, renV_agg, e, mergeB]
theorem l49 (S : Sht r f n l) (hc : AbC cs off n l) (a : List (Nat × Nat)) (ha : ∀ p, p ∈ a → p.2 < n) (hl : a.length ≤ 1000) : ∀ q i : Nat, i + q = a.length →
    lpB Try.prog LL ⟨49, 22, 3, none⟩ n49_8 n49_9 ⟨[(1, cl51 1), (5, .slice (some ⟨3, 0, none⟩) i i), (8, .slice (some ⟨0, 0, none⟩) a.length a.length), (9, iv a.length), (10, iv i)], [prB a, shB r f 2 off n c, .cells cs 3 true own, iB ((stpsOf l a).take i)], []⟩ =
      some (.exit 0, ⟨[(5, .slice (some ⟨3, 0, none⟩) a.length a.length)], [prB a, shB r f 2 off n c, .cells cs 3 true own, iB (stpsOf l a)], []⟩) := by
  intro q
  induction q with
  | zero =>
    intro i hi
    obtain rfl : i = a.length := by omega
    have hfull : (stpsOf l a).take a.length = stpsOf l a := List.take_of_length_le (by simp [stpsOf])
    rw [hfull, lpB_eq]
    simp (maxSteps := 1000000) (disch := first | omega | decide | assumption | simp [scal]) [lenA_sl lk_41, o_indexAddrS es_41, loadA_eq ia_95, za_95, sz_95, o_indexAddrS es_25, ze_25, o_buildSlice es_25 ze_25 (by decide) ba_25_1, ap_25, builtin_append ni_25, prB_flat, prB_ren, iB_flat, iB_ren]
  | succ q ih =>
    intro i hi
    have e1 : i < a.length := by omega
    have this := ih (i + 1) (by omega)
    obtain ⟨p, hp⟩ : ∃ p, a[i]? = some p := ⟨_, List.getElem?_eq_getElem e1⟩
    have hpm : p ∈ a := List.mem_of_getElem? hp
    obtain ⟨g1, g2⟩ := prG_get hp
    have hs : (stpsOf l a)[i]? = some ((l p.2).h - 1) := by simp [stpsOf, hp]
    have ht : (stpsOf l a).take (i + 1) = (stpsOf l a).take i ++ [(l p.2).h - 1] := by rw [List.take_add_one, hs]; rfl
    have hlen : ((stpsOf l a).take i).length = i := by simp [stpsOf]; omega
    have a1 := k51 r f off n c (own := own) S hc p (ha p hpm) (prB a)
    rw [ht] at this
    rw [lpB_eq]
    generalize (stpsOf l a).take i = o at *
    have c1 := fun h b c rd => app_list (h := h) (b := b) (c := c) (k := 1) (by' := 8) (l := i) (cs := o.map iv) (new := [iv ((l p.2).h - 1)]) (rd := rd) (by simp [hlen]) (by omega) (by omega) rfl
    simp only [cast1, prB, iB, List.map_append, List.map_cons, List.map_nil] at this a1 ⊢
    simp (maxSteps := 1000000) (disch := first | omega | decide | assumption | simp [scal]) [lenA_sl lk_41, o_indexAddrS es_41, loadA_eq ia_95, za_95, sz_95, o_indexAddrS es_25, ze_25, o_buildSlice es_25 ze_25 (by decide) ba_25_1, ap_25, builtin_append ni_25, e1, g1, g2, a1, append_some ap_25, srcCells, c1, this]
end
end Go.Proofs.Ytiafgimgcbmgaaa.bl
namespace Go.Proofs.Ytiafgimgcbmgaaa.bl
open Go.GE
set_option linter.unusedVariables false
set_option linter.unusedSimpArgs false
set_option maxRecDepth 100000
set_option maxHeartbeats 4000000
attribute [local simp] runOps_nil runOps_cons runOpsF_nil runOpsF_cons fstS_some fstF_some opStep_eq want_none oStep_true oStep_false fin_pure fin_read fin_alloc fin_write storeB wrN cellV addWr o_move o_assign o_pick o_alloc o_box o_load o_store o_nilCheck o_bin o_un o_extract o_callV o_callB o_callI callV_f callV_y callV_fc o_makeFunc partsA Instr.fill builtin_len builtin_max2 bin_add bin_sub bin_mul bin_quo bin_rem bin_lss bin_leq bin_gtr bin_geq bin_eql bin_neq un_neg un_not bin_shr bin_shl wrap_u64_id opd opds optAll putO nbeq nblt constOk isC ops sub cl cr co bodyOf thenS_normal thenS_ret thenS_exit thenS_goto afterN_normal afterN_ret afterN_exit afterN_goto condS_true condS_false blockS_normal blockS_ret blockS_exit blockS_goto headS normS normK_eq fixS_nil fixS_cons fix1 fixV emptyB keepO_nil keepO_cons roundC_normal roundC_exit roundC_ret roundC_goto sweep_eq sweepD rnm pickR pickW rootsB ptrT renT ptrFn renFn ptrB_flat ptrB_non renB_flat renB_non plainS_some drawS_some fpsOk disj unord range' dropTo enumT undef wrap_i64_id Value.cells mkCells ptrTo scal cellsAt rdN endS_ret resultsA Option.bind_some tupV finish reachN dep ptrL_eq ptrL renL_eq renL ptrV_bool ptrV_int ptrV_string ptrV_nilFunc ptrV_nilIface ptrV_nilPtr ptrV_ptr ptrV_nilSl ptrV_sl ptrV_iface ptrV_agg ptrV_tuple ptrV_func renV_bool renV_int renV_string renV_nilFunc renV_nilIface renV_nilPtr renV_ptr renV_nilSl renV_sl renV_iface renV_agg renV_tuple renV_func gotoS_goto gotoS_normal gotoS_exit gotoS_ret skip_seq sliceE bnd bndHi intOf optOpd keepT_nil keepT_cons keepC_t keepC_f lk_nil lk_cons lkC_t lkC_f has_nil has_cons hasC_t hasC_f rep_nil rep_cons repC_t repC_f put_eq putC_t putC_f mem_nil mem_cons memC_t memC_f idx_nil idx_cons idxC_t idxC_f reach_nil reach_cons reachC_t reachC_f
attribute [local simp] n49_1s n49_3s n49_6s n49_10s n49_13s n49_14s n49_12s n49_18s n49_19s n49_17s n49_16s n49_20s n49_15s n49_11s n49_9s n49_8s n49_8g n49_7s n49_5s n49_22s n49_23s n49_21s n49_4s n49_2s n49_0s Try.f49 n17_1s n17_4s n17_6s n17_9s n17_10s n17_8s n17_11s n17_7s n17_5s n17_3s n17_13s n17_14s n17_12s n17_2s n17_0s Try.f17
theorem iB_noId {a : List Int} : noIdB (iB a) := noIdB_flat
theorem prB_noId {a : List (Nat × Nat)} : noIdB (prB a) := noIdB_flat
/-- a whole list, at block b -/
abbrev wh (b m : Nat) : Value := .slice (some ⟨b, 0, none⟩) m m
noncomputable def fewR (r f : Int) (n : Nat) (l : Nat → Ab) : List Int := if chkS r f n l = 0 then stpsOf l (fewS r f l n) else []
section
variable (r f : Int) (off n c : Nat) {cs : List Value} {own : Bool} {l : Nat → Ab}
theorem c49 (S : Sht r f n l) (hc : AbC cs off n l) (a : List (Nat × Nat)) (ha : ∀ p, p ∈ a → p.2 < n) (hl : a.length ≤ 1000) :
    LL.run 49 [wh 0 a.length, cl51 1] [prB a, shB r f 2 off n c, .cells cs 3 true own] = some ⟨wh 3 a.length, [iB (stpsOf l a)], []⟩ := by
  refine go (by decide) ?_
  rw [run49 _ _ _ (by simp)]
  have this := l49 r f off n c (own := own) S hc a ha hl a.length 0 (by omega)
  simp only [Int.natCast_zero, List.take_zero, iB, List.map_nil] at this
  simp only [iB, prB] at this ⊢
  simp (maxSteps := 1000000) (disch := first | omega | decide | assumption | simp [scal]) [lenA_sl lk_41, o_indexAddrS es_41, loadA_eq ia_95, za_95, sz_95, o_indexAddrS es_25, ze_25, o_buildSlice es_25 ze_25 (by decide) ba_25_1, ap_25, builtin_append ni_25, this]
theorem k49 (S : Sht r f n l) (hc : AbC cs off n l) (a : List (Nat × Nat)) (ha : ∀ p, p ∈ a → p.2 < n) (hl : a.length ≤ 1000) (rest : List Blk) :
    callH LL 49 [wh 2 a.length, cl51 1] (.cells cs 3 true own :: shB r f 0 off n c :: prB a :: rest) = some ⟨wh (rest.length + 3) a.length, .cells cs 3 true own :: shB r f 0 off n c :: prB a :: (rest ++ [iB (stpsOf l a)]), [2, 1, 0], []⟩ := by
  have e := c49 r f off n c (own := own) S hc a ha hl
  refine callH_of (by intro _; first | trivial | rfl) ?_ (by simp)
  unfold callH0
  have hp : ([wh 2 a.length, cl51 1] : List Value).flatMap (ptrV dep) = [2, 1] := rfl
  have hm : ∀ k : Nat, 20 < k → reach (.cells cs 3 true own :: shB r f 0 off n c :: prB a :: rest) 0 k [2, 1] [] = [2, 1, 0] := by
    intro k hk
    obtain ⟨k, rfl⟩ : ∃ j, k = j + 20 := ⟨k - 20, by omega⟩
    simp [reach_cons, reachC_t, reachC_f, reach_nil, rootsB, GE.mem, nblt, nbeq, ptrB, prB, ptrV_sl, ptrV_int, dep]
  simp only [hp, hm reachN (by decide)]
  simp only [prB, iB] at e ⊢
  simp [optAll, renL, renV_func, renFn, renV_ptr, dep, idx, nbeq, renB, renL_eq, renV_int, renV_sl, renV_agg, e, mergeB, nblt]
theorem k50 (S : Sht r f n l) (hc : AbC cs off n l) (hnc : n ≤ c) (rest : List Blk) : callH LL 50 [shV r f 0 off n c] (.cells cs 3 true own :: rest) = some ⟨wh (rest.length + 1) (fewS r f l n).length, .cells cs 3 true own :: (rest ++ [prB (fewS r f l n)]), [0], []⟩ :=
  callN_1 rfl rfl noIdB_flat (by simp [renV, dep, optAll, idx, nbeq]) (c50 r f off n c (own := own) S hc hnc) (by intro b hb; simp at hb; subst hb; exact prB_noId) (by simp [renV, dep, nblt])
theorem c17 (hc : AbC cs off n l) (hnc : n ≤ c) : LL.run 17 [shV r f 0 off n c] [.cells cs 3 true own] = some ⟨.tuple #[wh 1 (fewR r f n l).length, iv (chkS r f n l)], [iB (fewR r f n l)], []⟩ := by
  refine go (by decide) ?_
  rw [run17 _ _ _ (by simp)]
  have a1 := fun bx => k22 r f 0 off n c (h := .cells cs 3 true own :: bx) l rfl hc
  unfold fewR
  by_cases h : chkS r f n l = 0
  · rw [if_pos h]
    have S := chkS_zero h
    have a2 := k50 r f off n c (own := own) S hc hnc
    have a3 := k49 r f off n c (own := own) S hc (fewS r f l n) (fun p hp => (fewS_mem hp).2) (by have := fewS_len (r := r) (f := f) (l := l) (n := n); have := S.n40; omega)
    have hl : (stpsOf l (fewS r f l n)).length = (fewS r f l n).length := by simp [stpsOf]
    rw [hl]
    simp only [prB, iB] at a2 a3 ⊢
    simp (maxSteps := 1000000) (disch := first | omega | decide | assumption | simp [scal]) [loadA_eq ia_24, a1, a2, a3, h]
  · rw [if_neg h]
    simp only [iB]
    simp (maxSteps := 1000000) (disch := first | omega | decide | assumption | simp [scal]) [loadA_eq ia_24, a1, h]
end
end Go.Proofs.Ytiafgimgcbmgaaa.bl
namespace Go.Proofs.Ytiafgimgcbmgaaa.bl
open Go.GE
set_option linter.unusedVariables false
set_option linter.unusedSimpArgs false
set_option maxRecDepth 100000
set_option maxHeartbeats 4000000
def abG (a : Ab) : List Value := [iv a.h, iv a.lo, iv a.hi]
end Go.Proofs.Ytiafgimgcbmgaaa.bl
namespace Go.Proofs.Ytiafgimgcbmgaaa.bl
open Go.GE
set_option linter.unusedVariables false
set_option linter.unusedSimpArgs false
set_option maxRecDepth 100000
set_option maxHeartbeats 4000000
theorem k15 (h : List Blk) : callH LL 15 [] h = some ⟨.bool true, h, [], []⟩ := callH_plain (L_tab rfl) rfl rfl
section
variable (r f : Int) (b off n c : Nat) {cs : List Value} {own : Bool} {l : Nat → Ab} {h : List Blk}
theorem k17 (hb : h[b]? = some (.cells cs 3 true own)) (hc : AbC cs off n l) (hnc : n ≤ c) : callH LL 17 [shV r f b off n c] h = some ⟨.tuple #[wh h.length (fewR r f n l).length, iv (chkS r f n l)], h ++ [iB (fewR r f n l)], [b], []⟩ :=
  callN_1 rfl hb noIdB_flat (sh_ren r f b off n c) (c17 r f off n c (own := own) hc hnc) (by intro b hb; simp at hb; subst hb; exact iB_noId) (by simp [renV, dep, nblt, optAll])
end
end Go.Proofs.Ytiafgimgcbmgaaa.bl
namespace Go.Proofs.Ytiafgimgcbmgaaa.bl
open Go.GE Go.ChangeShapes Go.WideShapes Go.RowKit
set_option linter.unusedVariables false
set_option linter.unusedSimpArgs false
set_option maxRecDepth 100000
set_option maxHeartbeats 4000000
def abAt (L : List Ab) (i : Nat) : Ab := L.getD i ⟨0, 0, 0⟩
def inAt (x : List Int) (i : Nat) : Int := x.getD i 0
theorem abAt_C (L : List Ab) : AbC (L.flatMap abG) 0 L.length (abAt L) := by
  intro i hi
  have h : L[i]? = some (abAt L i) := by simp [abAt, hi]
  refine ⟨?_, ?_, ?_⟩
  · have := flat_get (g := abG) (k := 3) (fun _ => rfl) h (j := 0) (by omega); simpa [abG] using this
  · have := flat_get (g := abG) (k := 3) (fun _ => rfl) h (j := 1) (by omega); simpa [abG] using this
  · have := flat_get (g := abG) (k := 3) (fun _ => rfl) h (j := 2) (by omega); simpa [abG] using this
theorem inAt_C (x : List Int) : IvC (x.map iv) 0 x.length (inAt x) := by
  intro i hi
  simp [inAt, hi]
end Go.Proofs.Ytiafgimgcbmgaaa.bl
namespace Go.Proofs.Ytiafgimgcbmgaaa.bl
open Go.GE
set_option linter.unusedVariables false
set_option linter.unusedSimpArgs false
set_option maxRecDepth 100000
set_option maxHeartbeats 4000000
structure GoodP (r f : Int) (l : Nat → Ab) (n : Nat) (a : List (Nat × Nat)) (first : Nat) : Prop where
  mem : ∀ q, q ∈ a → q.1 < q.2 ∧ q.2 < n ∧ needS r f (l q.1) (l q.2) = true
  chain : ∀ (i : Nat) p q, a[i]? = some p → a[i + 1]? = some q → p.2 ≤ q.1
  last : ∀ (i : Nat) p, a[i]? = some p → i + 1 = a.length → p.2 ≤ first
theorem fewL_good {r f : Int} {l : Nat → Ab} {n : Nat} : ∀ q k first (a : List (Nat × Nat)), k + q = n → first ≤ k → GoodP r f l n a first → ∃ last, GoodP r f l n (fewL r f l q k first a) last := by
  intro q
  induction q with
  | zero => intro k first a hk hf ha; exact ⟨first, ha⟩
  | succ q ih =>
    intro k first a hk hf ha
    simp only [fewL]
    rcases findL_spec (P := fun i => needS r f (l (first + i)) (l k)) (k - first) 0 with ⟨w, _⟩ | ⟨j, w, _, w2, w3, _⟩
    · rw [if_pos w]; exact ih _ _ _ (by omega) (by omega) ha
    · rw [if_neg (by rw [w]; omega), w]
      refine ih _ _ _ (by omega) (by omega) ⟨fun q hq => ?_, fun i p q hp hq => ?_, fun i p hp hi => ?_⟩
      · rw [List.mem_append, List.mem_singleton] at hq
        rcases hq with hq | rfl
        · exact ha.mem q hq
        · simp only [Int.toNat_natCast]; exact ⟨by omega, by omega, w3⟩
      · by_cases h1 : i + 1 < a.length
        · rw [List.getElem?_append_left (by omega)] at hp
          rw [List.getElem?_append_left h1] at hq
          exact ha.chain i p q hp hq
        · rw [List.getElem?_append_right (by omega)] at hq
          have hlt := (List.getElem?_eq_some_iff.1 hq).1
          simp at hlt
          have e : i + 1 - a.length = 0 := by omega
          rw [e] at hq
          simp at hq
          subst hq
          rw [List.getElem?_append_left (by omega)] at hp
          have := ha.last i p hp (by omega)
          simp only; omega
      · simp at hi
        rw [List.getElem?_append_right (by omega)] at hp
        have e : i - a.length = 0 := by omega
        rw [e] at hp
        simp at hp
        subst hp
        exact Nat.le_refl _
section
open Go.ChangeShapes Go.WideShapes Go.RowKit
variable {H : Type} {enc : TypeId × Value → H} {W : World} {base b0 : Nat} {v : Value} {d : DataW H} {p : List MemPlace}
end
end Go.Proofs.Ytiafgimgcbmgaaa.bl
namespace Go.Proofs.Ytiafgimgcbmgaaa.bl
open Go.GE
set_option linter.unusedVariables false
set_option linter.unusedSimpArgs false
set_option maxRecDepth 100000
set_option maxHeartbeats 4000000
attribute [local simp] runOps_nil runOps_cons runOpsF_nil runOpsF_cons fstS_some fstF_some opStep_eq want_none oStep_true oStep_false fin_pure fin_read fin_alloc fin_write storeB wrN cellV addWr o_move o_assign o_pick o_alloc o_box o_load o_store o_nilCheck o_bin o_un o_extract o_callV o_callB o_callI callV_f callV_y callV_fc o_makeFunc partsA Instr.fill builtin_len builtin_max2 bin_add bin_sub bin_mul bin_quo bin_rem bin_lss bin_leq bin_gtr bin_geq bin_eql bin_neq un_neg un_not bin_shr bin_shl wrap_u64_id opd opds optAll putO nbeq nblt constOk isC ops sub cl cr co bodyOf thenS_normal thenS_ret thenS_exit thenS_goto afterN_normal afterN_ret afterN_exit afterN_goto condS_true condS_false blockS_normal blockS_ret blockS_exit blockS_goto headS normS normK_eq fixS_nil fixS_cons fix1 fixV emptyB keepO_nil keepO_cons roundC_normal roundC_exit roundC_ret roundC_goto sweep_eq sweepD rnm pickR pickW rootsB ptrT renT ptrFn renFn ptrB_flat ptrB_non renB_flat renB_non plainS_some drawS_some fpsOk disj unord range' dropTo enumT undef wrap_i64_id Value.cells mkCells ptrTo scal cellsAt rdN endS_ret resultsA Option.bind_some tupV finish reachN dep ptrL_eq ptrL renL_eq renL ptrV_bool ptrV_int ptrV_string ptrV_nilFunc ptrV_nilIface ptrV_nilPtr ptrV_ptr ptrV_nilSl ptrV_sl ptrV_iface ptrV_agg ptrV_tuple ptrV_func renV_bool renV_int renV_string renV_nilFunc renV_nilIface renV_nilPtr renV_ptr renV_nilSl renV_sl renV_iface renV_agg renV_tuple renV_func gotoS_goto gotoS_normal gotoS_exit gotoS_ret skip_seq sliceE bnd bndHi intOf optOpd keepT_nil keepT_cons keepC_t keepC_f lk_nil lk_cons lkC_t lkC_f has_nil has_cons hasC_t hasC_f rep_nil rep_cons repC_t repC_f put_eq putC_t putC_f mem_nil mem_cons memC_t memC_f idx_nil idx_cons idxC_t idxC_f reach_nil reach_cons reachC_t reachC_f
attribute [local simp] n86_1s n86_4s n86_6s n86_7s n86_5s n86_3s n86_8s n86_2s n86_0s Try.f86 n61_1s n61_3s n61_5s n61_8s n61_11s n61_13s n61_12s n61_9s n61_7s n61_15s n61_16s n61_14s n61_6s n61_4s n61_2s n61_0s Try.f61
theorem builtin_min2 {P : Program} {h : List Blk} {ts : List TypeId} {k k' : IntKind} {a b : Int} : builtinA P h .min ts [.int k a, .int k' b] = pureR h (.int k (if b < a then b else a)) := by
  cases ts <;> rfl
/-- values that are cut: from, to, known -/
abbrev Lim := Int × Int × Bool
def limB (p : Lim) : Blk := .cells [iv p.1, iv p.2.1, .bool p.2.2] 1 true true
def vStep (p : Lim) (lo hi : Int) : Lim := if p.2.2 then (if p.1 < lo then lo else p.1, if hi < p.2.1 then hi else p.2.1, true) else (lo, hi, true)
theorem c86 (p : Lim) (lo hi : Int) : LL.run 86 [pp 0, .agg #[iv lo, iv hi]] [limB p] = some ⟨.tuple #[], [], [(0, limB (vStep p lo hi))]⟩ := by
  refine go (by decide) ?_
  rw [run86 _ _ _ (by simp)]
  obtain ⟨a, b, k⟩ := p
  cases k
  · simp only [limB, vStep]
    simp (maxSteps := 1000000) (disch := first | omega | decide | assumption | simp [scal]) [o_fieldAddr fa_127_1 (by decide), loadA_eq ia_4, o_fieldAddr fa_127_0 (by decide), o_fieldAddr fa_57_0 (by decide), loadA_eq ia_3, o_fieldAddr fa_57_1 (by decide), za_57, o_build za_57 pl_57, sz_57, loadA_eq ia_57, sz_4, endS_normal, addWr, ins]
  · simp only [limB, vStep]
    by_cases h1 : a < lo <;> by_cases h2 : hi < b <;>
    simp (maxSteps := 1000000) (disch := first | omega | decide | assumption | simp [scal]) [o_fieldAddr fa_127_1 (by decide), loadA_eq ia_4, o_fieldAddr fa_127_0 (by decide), o_fieldAddr fa_57_0 (by decide), loadA_eq ia_3, o_fieldAddr fa_57_1 (by decide), za_57, o_build za_57 pl_57, sz_57, loadA_eq ia_57, sz_4, endS_normal, addWr, ins, builtin_min2, h1, h2]
theorem k86 (p : Lim) (lo hi : Int) {b : Nat} {h : List Blk} (hb : h[b]? = some (limB p)) : callH LL 86 [pp b, .agg #[iv lo, iv hi]] h = some ⟨.tuple #[], h.set b (limB (vStep p lo hi)), [b], [b]⟩ := by
  have e := c86 p lo hi
  refine callH_of (by intro _; first | trivial | rfl) ?_ (by simpa using (List.getElem?_eq_some_iff.1 hb).1)
  unfold callH0
  have hp : ([pp b, .agg #[iv lo, iv hi]] : List Value).flatMap (ptrV dep) = [b] := rfl
  rw [hp, reach_one hb rfl (by decide)]
  have hr : optAll (renV (idx [b]) dep) [pp b, .agg #[iv lo, iv hi]] = some [pp 0, .agg #[iv lo, iv hi]] := by simp [renV, dep, optAll, idx, nbeq]
  simp only [hr]
  have hl : ∀ q g, renB g (limB q) = some (limB q) := fun _ _ => rfl
  simp [optAll, hb, hl, e, mergeB, renV_tuple, renL, dep]
noncomputable def lp61 (a b d : Nat) : ALoop := ⟨.ready, none, 61, [(6, pp a), (3, pp b), (2, pp d)], 25, #[15, 16], n61_11, n61_12⟩
abbrev fc86 (b : Nat) : Blk := .cells [.func (.func 86) #[pp b] #[]] 1 false true
section
variable (r f : Int) (off n c off2 m c2 : Nat) (cs cs2 : List Value) (own own2 : Bool) (x : Int)
theorem r61 (D : Dr r f) (a : Ab) (A : OkA a) (x0 : 0 ≤ x) (x1 : x ≤ 10000) (i : Nat) (p : Lim) :
    LL.rnd 0 [iv i, abV a] [.loop (lp61 1 3 4), fc86 2, limB p, c1 x, ptB r f 5 off n c 6 off2 m c2, .cells cs 3 true own, .cells cs2 1 true own2] =
      some ⟨.bool true, [], [(0, .loop (lp61 1 3 4)), (2, limB (vStep p (arLo r f a x) (arHi r f a x)))]⟩ := by
  have hk := fun b0 b1 b2 b3 b4 bx => k85 r f 5 off n c (h := b0 :: b1 :: b2 :: b3 :: b4 :: .cells cs 3 true own :: bx) (cs := cs) (own := own) D a A x x0 x1 rfl
  have hq := fun b0 b1 bx => k86 p (arLo r f a x) (arHi r f a x) (b := 2) (h := b0 :: b1 :: limB p :: bx) rfl
  generalize vStep p (arLo r f a x) (arHi r f a x) = q at *
  generalize arLo r f a x = lo at *
  generalize arHi r f a x = hi at *
  obtain ⟨ah, al, au⟩ := a
  rw [show LL = L Try.prog (wk.wtab.keep kpT) from rfl, L_rnd_eq]
  have e1 : codeB Try.prog LL ⟨61, 25, 7, some 0⟩ n61_11 ⟨[(16, abV ⟨ah, al, au⟩), (15, iv i), (6, pp 1), (3, pp 3), (2, pp 4)], [.loop (lp61 1 3 4), fc86 2, limB p, c1 x, ptB r f 5 off n c 6 off2 m c2, .cells cs 3 true own, .cells cs2 1 true own2], []⟩ =
      some (.normal, ⟨[(8, pp 7), (16, abV ⟨ah, al, au⟩), (15, iv i), (6, pp 1), (3, pp 3), (2, pp 4)], [.loop (lp61 1 3 4), fc86 2, limB p, c1 x, ptB r f 5 off n c 6 off2 m c2, .cells cs 3 true own, .cells cs2 1 true own2, abB ⟨ah, al, au⟩], []⟩) := by
    simp (maxSteps := 1000000) (disch := first | omega | decide | assumption | simp [scal]) [za_127, za_155, sz_155, loadA_eq ia_115, loadA_eq ia_3, za_59, sz_59, loadA_eq ia_155, o_fieldAddr fa_115_0 (by decide), loadA_eq ia_24, loadA_eq ia_59, loadA_eq ia_127, sz_127]
  have e2 : codeB Try.prog LL ⟨61, 25, 7, some 0⟩ n61_12 ⟨[(8, pp 7), (16, abV ⟨ah, al, au⟩), (15, iv i), (6, pp 1), (3, pp 3), (2, pp 4)], [.loop { lp61 1 3 4 with state := .busy }, fc86 2, limB p, c1 x, ptB r f 5 off n c 6 off2 m c2, .cells cs 3 true own, .cells cs2 1 true own2, abB ⟨ah, al, au⟩], [0]⟩ =
      some (.normal, ⟨[(8, pp 7), (16, abV ⟨ah, al, au⟩), (15, iv i), (6, pp 1), (3, pp 3), (2, pp 4)], [.loop { lp61 1 3 4 with state := .busy }, fc86 2, limB q, c1 x, ptB r f 5 off n c 6 off2 m c2, .cells cs 3 true own, .cells cs2 1 true own2, abB ⟨ah, al, au⟩], [0, 2]⟩) := by
    simp (maxSteps := 1000000) (disch := first | omega | decide | assumption | simp [scal]) [za_127, za_155, sz_155, loadA_eq ia_115, loadA_eq ia_3, za_59, sz_59, loadA_eq ia_155, o_fieldAddr fa_115_0 (by decide), loadA_eq ia_24, loadA_eq ia_59, loadA_eq ia_127, sz_127, hk, hq, callV_fc, addWr, ins]
  rw [rnd_step (lp := lp61 1 3 4) (l1 := lp61 1 3 4) (l2 := { lp61 1 3 4 with state := .busy }) rfl rfl rfl rfl rfl e1 rfl rfl e2 rfl]
  simp (maxSteps := 1000000) (disch := first | omega | decide | assumption | simp [scal]) [ins, lp61, limB, ptrB, renB]
end
end Go.Proofs.Ytiafgimgcbmgaaa.bl
namespace Go.Proofs.Ytiafgimgcbmgaaa.bl
open Go.GE
set_option linter.unusedVariables false
set_option linter.unusedSimpArgs false
set_option maxRecDepth 100000
set_option maxHeartbeats 4000000
attribute [local simp] runOps_nil runOps_cons runOpsF_nil runOpsF_cons fstS_some fstF_some opStep_eq want_none oStep_true oStep_false fin_pure fin_read fin_alloc fin_write storeB wrN cellV addWr o_move o_assign o_pick o_alloc o_box o_load o_store o_nilCheck o_bin o_un o_extract o_callV o_callB o_callI callV_f callV_y callV_fc o_makeFunc partsA Instr.fill builtin_len builtin_max2 bin_add bin_sub bin_mul bin_quo bin_rem bin_lss bin_leq bin_gtr bin_geq bin_eql bin_neq un_neg un_not bin_shr bin_shl wrap_u64_id opd opds optAll putO nbeq nblt constOk isC ops sub cl cr co bodyOf thenS_normal thenS_ret thenS_exit thenS_goto afterN_normal afterN_ret afterN_exit afterN_goto condS_true condS_false blockS_normal blockS_ret blockS_exit blockS_goto headS normS normK_eq fixS_nil fixS_cons fix1 fixV emptyB keepO_nil keepO_cons roundC_normal roundC_exit roundC_ret roundC_goto sweep_eq sweepD rnm pickR pickW rootsB ptrT renT ptrFn renFn ptrB_flat ptrB_non renB_flat renB_non plainS_some drawS_some fpsOk disj unord range' dropTo enumT undef wrap_i64_id Value.cells mkCells ptrTo scal cellsAt rdN endS_ret resultsA Option.bind_some tupV finish reachN dep ptrL_eq ptrL renL_eq renL ptrV_bool ptrV_int ptrV_string ptrV_nilFunc ptrV_nilIface ptrV_nilPtr ptrV_ptr ptrV_nilSl ptrV_sl ptrV_iface ptrV_agg ptrV_tuple ptrV_func renV_bool renV_int renV_string renV_nilFunc renV_nilIface renV_nilPtr renV_ptr renV_nilSl renV_sl renV_iface renV_agg renV_tuple renV_func gotoS_goto gotoS_normal gotoS_exit gotoS_ret skip_seq sliceE bnd bndHi intOf optOpd keepT_nil keepT_cons keepC_t keepC_f lk_nil lk_cons lkC_t lkC_f has_nil has_cons hasC_t hasC_f rep_nil rep_cons repC_t repC_f put_eq putC_t putC_f mem_nil mem_cons memC_t memC_f idx_nil idx_cons idxC_t idxC_f reach_nil reach_cons reachC_t reachC_f
attribute [local simp] n103_1s n103_5s n103_8s n103_9s n103_7s n103_13s n103_15s n103_17s n103_18s n103_16s n103_14s n103_12s n103_11s n103_19s n103_10s n103_6s n103_4s n103_3s n103_3g n103_2s n103_0s Try.f103
/-- the values at an hour, absolute by absolute of its part -/
def valL (r f : Int) (l : Nat → Ab) (m : Nat) (st : Nat → Int) (x : Int) (pt : Nat) : Nat → Nat → Lim → Lim
  | 0, _, p => p
  | k + 1, i, p => valL r f l m st x pt k (i + 1) (if partS m st (l i).h = pt then vStep p (arLo r f (l i) x) (arHi r f (l i) x) else p)
section
variable (r f : Int) (off n c off2 m c2 : Nat) (cs cs2 : List Value) (own own2 : Bool) (x : Int)
theorem y103v (D : Dr r f) (a : Ab) (A : OkA a) (x0 : 0 ≤ x) (x1 : x ≤ 10000) (i : Nat) (p : Lim) (rest : List Blk) :
    yieldH LL 0 [iv i, abV a] (.loop (lp61 1 3 4) :: fc86 2 :: limB p :: c1 x :: ptB r f 5 off n c 6 off2 m c2 :: .cells cs 3 true own :: .cells cs2 1 true own2 :: rest) =
      some ⟨.bool true, .loop (lp61 1 3 4) :: fc86 2 :: limB (vStep p (arLo r f a x) (arHi r f a x)) :: c1 x :: ptB r f 5 off n c 6 off2 m c2 :: .cells cs 3 true own :: .cells cs2 1 true own2 :: rest, [0, 1, 2, 3, 4, 5, 6], [0, 2]⟩ := by
  have e := r61 r f off n c off2 m c2 cs cs2 own own2 x D a A x0 x1 i p
  generalize vStep p (arLo r f a x) (arHi r f a x) = q at *
  have hm : ∀ k : Nat, 20 < k → reach (.loop (lp61 1 3 4) :: fc86 2 :: limB p :: c1 x :: ptB r f 5 off n c 6 off2 m c2 :: .cells cs 3 true own :: .cells cs2 1 true own2 :: rest) 0 k [0] [] = [0, 1, 2, 3, 4, 5, 6] := by
    intro k hk
    obtain ⟨k, rfl⟩ : ∃ j, k = j + 20 := ⟨k - 20, by omega⟩
    simp [reach_cons, reachC_t, reachC_f, reach_nil, rootsB, GE.mem, nblt, nbeq, ptrB, lp61, limB, ptrT, ptrV_ptr, ptrV_sl, ptrV_int, ptrV_func, ptrFn, ptrL, dep]
  unfold yieldH
  have hp : 0 :: ([iv i, abV a] : List Value).flatMap (ptrV dep) = [0] := rfl
  have hr : ∀ g, optAll (renV g dep) [iv i, abV a] = some [iv i, abV a] := fun _ => rfl
  simp only [hp, hm reachN (by decide), hr]
  simp only [lp61, limB] at e ⊢
  simp [optAll, renB, renT, renV_ptr, renV_sl, renV_int, renV_func, renFn, renL, dep, idx, nbeq, e, mergeB, renV_bool, nblt]
variable (l : Nat → Ab) (st : Nat → Int)
theorem l103v (S : Sht r f n l) (hc : AbC cs off n l) (hc2 : IvC cs2 off2 m st) (ha : Asc m st) (hm : m ≤ 1000) (x0 : 0 ≤ x) (x1 : x ≤ 10000) (pt : Nat) : ∀ q i : Nat, i + q = n → ∀ W p, (W = [] ∨ W = [0, 2]) → ∃ W', (W' = [] ∨ W' = [0, 2]) ∧ (W = [0, 2] → W' = [0, 2]) ∧ (W' = [] → valL r f l m st x pt q i p = p) ∧
    lpB Try.prog LL ⟨103, 29, 9, none⟩ n103_3 n103_4 ⟨[(0, .func (.yield 0) #[] #[]), (1, pp 7), (2, pp 8), (8, stV 5 off n c), (9, iv n), (10, iv i)], [.loop (lp61 1 3 4), fc86 2, limB p, c1 x, ptB r f 5 off n c 6 off2 m c2, .cells cs 3 true own, .cells cs2 1 true own2, ptB r f 5 off n c 6 off2 m c2, c1 pt], W⟩ =
      some (.exit 0, ⟨[], [.loop (lp61 1 3 4), fc86 2, limB (valL r f l m st x pt q i p), c1 x, ptB r f 5 off n c 6 off2 m c2, .cells cs 3 true own, .cells cs2 1 true own2, ptB r f 5 off n c 6 off2 m c2, c1 pt], W'⟩) := by
  have hn := S.n40
  intro q
  induction q with
  | zero =>
    intro i hi W p hW
    obtain rfl : i = n := by omega
    refine ⟨W, hW, fun h => h, fun _ => rfl, ?_⟩
    rw [lpB_eq]
    simp only [lp61, limB, valL]
    rcases hW with rfl | rfl <;>
    simp (maxSteps := 1000000) (disch := first | omega | decide | assumption | simp [scal]) [o_fieldAddr fa_115_0 (by decide), o_fieldAddr fa_24_2 (by decide), loadA_eq ia_22, lenA_sl lk_22, o_indexAddrS es_22, loadA_eq ia_59, za_59, sz_59, loadA_eq ia_115, o_fieldAddr fa_59_0 (by decide), loadA_eq ia_3, want_some q103_15g6, ptrB, renB]
  | succ q ih =>
    intro i hi W p hW
    have e1 : i < n := by omega
    obtain ⟨p2, p3, p4⟩ := hc i e1
    have a1 := fun b0 b1 b2 b3 b4 bx => k88 r f 5 off n c 6 off2 m c2 (h := b0 :: b1 :: b2 :: b3 :: b4 :: .cells cs 3 true own :: .cells cs2 1 true own2 :: bx) (cs := cs) (cs2 := cs2) rfl rfl (by decide) hc2 ha hm (l i).h
    have a2 := y103v r f off n c off2 m c2 cs cs2 own own2 x S.dr (l i) (S.ok i e1) x0 x1 i p
    by_cases w1 : partS m st (l i).h = pt
    · have w1' : (partS m st (l i).h : Int) = pt := by rw [w1]
      have hv : valL r f l m st x pt (q + 1) i p = valL r f l m st x pt q (i + 1) (vStep p (arLo r f (l i) x) (arHi r f (l i) x)) := by simp only [valL]; rw [if_pos w1]
      obtain ⟨W', hW', hz, _, this⟩ := ih (i + 1) (by omega) [0, 2] (vStep p (arLo r f (l i) x) (arHi r f (l i) x)) (.inr rfl)
      obtain rfl := hz rfl
      refine ⟨[0, 2], .inr rfl, fun _ => rfl, fun h => by simp at h, ?_⟩
      rw [hv, lpB_eq]
      generalize vStep p (arLo r f (l i) x) (arHi r f (l i) x) = p' at *
      simp only [cast1, lp61, limB] at this a2 ⊢
      rcases hW with rfl | rfl <;>
      simp (maxSteps := 1000000) (disch := first | omega | decide | assumption | simp [scal]) [o_fieldAddr fa_115_0 (by decide), o_fieldAddr fa_24_2 (by decide), loadA_eq ia_22, lenA_sl lk_22, o_indexAddrS es_22, loadA_eq ia_59, za_59, sz_59, loadA_eq ia_115, o_fieldAddr fa_59_0 (by decide), loadA_eq ia_3, want_some q103_15g6, ptrB, renB, e1, p2, p3, p4, a1, a2, eq_true w1', addWr, ins, this]
    · have w1' : ¬ (partS m st (l i).h : Int) = pt := by omega
      have hv : valL r f l m st x pt (q + 1) i p = valL r f l m st x pt q (i + 1) p := by simp only [valL]; rw [if_neg w1]
      obtain ⟨W', hW', hy, hz, this⟩ := ih (i + 1) (by omega) W p hW
      refine ⟨W', hW', hy, fun h => by rw [hv]; exact hz h, ?_⟩
      rw [hv, lpB_eq]
      simp only [cast1, lp61, limB] at this ⊢
      rcases hW with rfl | rfl <;>
      simp (maxSteps := 1000000) (disch := first | omega | decide | assumption | simp [scal]) [o_fieldAddr fa_115_0 (by decide), o_fieldAddr fa_24_2 (by decide), loadA_eq ia_22, lenA_sl lk_22, o_indexAddrS es_22, loadA_eq ia_59, za_59, sz_59, loadA_eq ia_115, o_fieldAddr fa_59_0 (by decide), loadA_eq ia_3, want_some q103_15g6, ptrB, renB, e1, p2, p3, p4, a1, w1', addWr, ins, this]
end
end Go.Proofs.Ytiafgimgcbmgaaa.bl
namespace Go.Proofs.Ytiafgimgcbmgaaa.bl
open Go.GE
set_option linter.unusedVariables false
set_option linter.unusedSimpArgs false
set_option maxRecDepth 100000
set_option maxHeartbeats 4000000
attribute [local simp] runOps_nil runOps_cons runOpsF_nil runOpsF_cons fstS_some fstF_some opStep_eq want_none oStep_true oStep_false fin_pure fin_read fin_alloc fin_write storeB wrN cellV addWr o_move o_assign o_pick o_alloc o_box o_load o_store o_nilCheck o_bin o_un o_extract o_callV o_callB o_callI callV_f callV_y callV_fc o_makeFunc partsA Instr.fill builtin_len builtin_max2 bin_add bin_sub bin_mul bin_quo bin_rem bin_lss bin_leq bin_gtr bin_geq bin_eql bin_neq un_neg un_not bin_shr bin_shl wrap_u64_id opd opds optAll putO nbeq nblt constOk isC ops sub cl cr co bodyOf thenS_normal thenS_ret thenS_exit thenS_goto afterN_normal afterN_ret afterN_exit afterN_goto condS_true condS_false blockS_normal blockS_ret blockS_exit blockS_goto headS normS normK_eq fixS_nil fixS_cons fix1 fixV emptyB keepO_nil keepO_cons roundC_normal roundC_exit roundC_ret roundC_goto sweep_eq sweepD rnm pickR pickW rootsB ptrT renT ptrFn renFn ptrB_flat ptrB_non renB_flat renB_non plainS_some drawS_some fpsOk disj unord range' dropTo enumT undef wrap_i64_id Value.cells mkCells ptrTo scal cellsAt rdN endS_ret resultsA Option.bind_some tupV finish reachN dep ptrL_eq ptrL renL_eq renL ptrV_bool ptrV_int ptrV_string ptrV_nilFunc ptrV_nilIface ptrV_nilPtr ptrV_ptr ptrV_nilSl ptrV_sl ptrV_iface ptrV_agg ptrV_tuple ptrV_func renV_bool renV_int renV_string renV_nilFunc renV_nilIface renV_nilPtr renV_ptr renV_nilSl renV_sl renV_iface renV_agg renV_tuple renV_func gotoS_goto gotoS_normal gotoS_exit gotoS_ret skip_seq sliceE bnd bndHi intOf optOpd keepT_nil keepT_cons keepC_t keepC_f lk_nil lk_cons lkC_t lkC_f has_nil has_cons hasC_t hasC_f rep_nil rep_cons repC_t repC_f put_eq putC_t putC_f mem_nil mem_cons memC_t memC_f idx_nil idx_cons idxC_t idxC_f reach_nil reach_cons reachC_t reachC_f
attribute [local simp] n103_1s n103_5s n103_8s n103_9s n103_7s n103_13s n103_15s n103_17s n103_18s n103_16s n103_14s n103_12s n103_11s n103_19s n103_10s n103_6s n103_4s n103_3s n103_3g n103_2s n103_0s Try.f103 n61_1s n61_3s n61_5s n61_8s n61_11s n61_13s n61_12s n61_9s n61_7s n61_15s n61_16s n61_14s n61_6s n61_4s n61_2s n61_0s Try.f61
def valS (r f : Int) (n : Nat) (l : Nat → Ab) (m : Nat) (st : Nat → Int) (x : Int) : Lim := valL r f l m st x (partS m st x) n 0 (0, 0, false)
abbrev limV (p : Lim) : Value := .agg #[iv p.1, iv p.2.1, .bool p.2.2]
section
variable (r f : Int) (off n c off2 m c2 : Nat) (cs cs2 : List Value) (own own2 : Bool) (x : Int) (l : Nat → Ab) (st : Nat → Int)
theorem c103v (S : Sht r f n l) (hc : AbC cs off n l) (hc2 : IvC cs2 off2 m st) (ha : Asc m st) (hm : m ≤ 1000) (x0 : 0 ≤ x) (x1 : x ≤ 10000) (pt : Nat) (p : Lim) :
    ∃ ws, (ws = [(0, .loop (lp61 1 3 4)), (2, limB (valL r f l m st x pt n 0 p))] ∨ (ws = [] ∧ valL r f l m st x pt n 0 p = p)) ∧
      LL.run 103 [.func (.yield 0) #[] #[], pp 7, pp 8] [.loop (lp61 1 3 4), fc86 2, limB p, c1 x, ptB r f 5 off n c 6 off2 m c2, .cells cs 3 true own, .cells cs2 1 true own2, ptB r f 5 off n c 6 off2 m c2, c1 pt] = some ⟨.tuple #[], [], ws⟩ := by
  obtain ⟨W, hW, _, hz, this⟩ := l103v r f off n c off2 m c2 cs cs2 own own2 x l st S hc hc2 ha hm x0 x1 pt n 0 (by omega) [] p (.inl rfl)
  simp only [Int.natCast_zero] at this
  rcases hW with rfl | rfl
  · refine ⟨[], .inr ⟨rfl, hz rfl⟩, go (by decide) ?_⟩
    rw [run103 _ _ _ (by simp)]
    simp only [lp61, limB] at this ⊢
    simp (maxSteps := 1000000) (disch := first | omega | decide | assumption | simp [scal]) [o_fieldAddr fa_115_0 (by decide), o_fieldAddr fa_24_2 (by decide), loadA_eq ia_22, lenA_sl lk_22, o_indexAddrS es_22, loadA_eq ia_59, za_59, sz_59, loadA_eq ia_115, o_fieldAddr fa_59_0 (by decide), loadA_eq ia_3, want_some q103_15g6, ptrB, renB, this, endS_normal]
  · refine ⟨_, .inl rfl, go (by decide) ?_⟩
    rw [run103 _ _ _ (by simp)]
    simp only [lp61, limB] at this ⊢
    simp (maxSteps := 1000000) (disch := first | omega | decide | assumption | simp [scal]) [o_fieldAddr fa_115_0 (by decide), o_fieldAddr fa_24_2 (by decide), loadA_eq ia_22, lenA_sl lk_22, o_indexAddrS es_22, loadA_eq ia_59, za_59, sz_59, loadA_eq ia_115, o_fieldAddr fa_59_0 (by decide), loadA_eq ia_3, want_some q103_15g6, ptrB, renB, this, endS_normal]
theorem h103v (S : Sht r f n l) (hc : AbC cs off n l) (hc2 : IvC cs2 off2 m st) (ha : Asc m st) (hm : m ≤ 1000) (x0 : 0 ≤ x) (x1 : x ≤ 10000) (pt : Nat) (b4 : Blk) (p : Lim) : ∃ W, (W = [] ∨ W = [9, 5]) ∧
    callH LL 103 [.func (.yield 9) #[] #[], pp 7, pp 8] [.cells cs 3 true own, .cells cs2 1 true own2, ptB r f 0 off n c 1 off2 m c2, c1 x, b4, limB p, fc86 5, ptB r f 0 off n c 1 off2 m c2, c1 pt, .loop (lp61 6 3 2)] =
      some ⟨.tuple #[], [.cells cs 3 true own, .cells cs2 1 true own2, ptB r f 0 off n c 1 off2 m c2, c1 x, b4, limB (valL r f l m st x pt n 0 p), fc86 5, ptB r f 0 off n c 1 off2 m c2, c1 pt, .loop (lp61 6 3 2)], [9, 6, 5, 3, 2, 0, 1, 7, 8], W⟩ := by
  have hm2 : ∀ q : Nat, 20 < q → reach [.cells cs 3 true own, .cells cs2 1 true own2, ptB r f 0 off n c 1 off2 m c2, c1 x, b4, limB p, fc86 5, ptB r f 0 off n c 1 off2 m c2, c1 pt, .loop (lp61 6 3 2)] 0 q [9, 7, 8] [] = [9, 6, 5, 3, 2, 0, 1, 7, 8] := by
    intro q hq
    obtain ⟨q, rfl⟩ : ∃ j, q = j + 20 := ⟨q - 20, by omega⟩
    simp [reach_cons, reachC_t, reachC_f, reach_nil, rootsB, GE.mem, nblt, nbeq, ptrB, lp61, limB, ptrT, ptrV_ptr, ptrV_sl, ptrV_int, ptrV_func, ptrFn, ptrL, dep]
  have hp : ([.func (.yield 9) #[] #[], pp 7, pp 8] : List Value).flatMap (ptrV dep) = [9, 7, 8] := rfl
  obtain ⟨ws, hws, e⟩ := c103v r f off n c off2 m c2 cs cs2 own own2 x l st S hc hc2 ha hm x0 x1 pt p
  have key : callH0 LL 103 [.func (.yield 9) #[] #[], pp 7, pp 8] [.cells cs 3 true own, .cells cs2 1 true own2, ptB r f 0 off n c 1 off2 m c2, c1 x, b4, limB p, fc86 5, ptB r f 0 off n c 1 off2 m c2, c1 pt, .loop (lp61 6 3 2)] =
      mergeB [.cells cs 3 true own, .cells cs2 1 true own2, ptB r f 0 off n c 1 off2 m c2, c1 x, b4, limB p, fc86 5, ptB r f 0 off n c 1 off2 m c2, c1 pt, .loop (lp61 6 3 2)] [9, 6, 5, 3, 2, 0, 1, 7, 8] ⟨.tuple #[], [], ws⟩ := by
    unfold callH0
    simp only [hp, hm2 reachN (by decide)]
    simp only [lp61, limB] at e ⊢
    simp [optAll, renV_func, renFn, renL, renV_ptr, dep, idx, nbeq, renB, renT, renL_eq, renV_int, renV_sl, renV_bool, e]
  rcases hws with rfl | ⟨rfl, hz⟩
  · refine ⟨[9, 5], .inr rfl, callH_of (by intro _; first | trivial | rfl) ?_ (by simp)⟩
    rw [key]
    simp only [lp61, limB]
    simp [mergeB, renV_tuple, renL, dep, optAll, renB, renT, renV_ptr, nblt]
  · refine ⟨[], .inl rfl, callH_of (by intro _; first | trivial | rfl) ?_ (by simp)⟩
    rw [key, hz]
    simp only [lp61, limB]
    simp [mergeB, renV_tuple, renL, dep, optAll, renB, renT, renV_ptr, nblt]
theorem c61 (S : Sht r f n l) (hc : AbC cs off n l) (hc2 : IvC cs2 off2 m st) (ha : Asc m st) (hm : m ≤ 1000) (x0 : 0 ≤ x) (x1 : x ≤ 10000) :
    LL.run 61 [ptV r f 0 off n c 1 off2 m c2, iv x] [.cells cs 3 true own, .cells cs2 1 true own2] = some ⟨limV (valS r f n l m st x), [], []⟩ := by
  refine go (by decide) ?_
  rw [run61 _ _ _ (by simp)]
  have a1 := fun bx => k88 r f 0 off n c 1 off2 m c2 (h := .cells cs 3 true own :: .cells cs2 1 true own2 :: bx) (cs := cs) (cs2 := cs2) rfl rfl (by decide) hc2 ha hm x
  have a2 := k87 r f off n c off2 m c2 cs cs2 own own2 (partS m st x)
  obtain ⟨W, hW, a3⟩ := h103v r f off n c off2 m c2 cs cs2 own own2 x l st S hc hc2 ha hm x0 x1 (partS m st x) (limB (0, 0, false)) (0, 0, false)
  simp (maxSteps := 1000000) (disch := first | omega | decide | assumption | simp [scal]) [za_127, za_155, sz_155, loadA_eq ia_115, loadA_eq ia_3, za_59, sz_59, loadA_eq ia_155, o_fieldAddr fa_115_0 (by decide), loadA_eq ia_24, loadA_eq ia_59, loadA_eq ia_127, sz_127, a1, a2]
  rw [range_step n61_10e n61_10k rfl]
  rw [← valS] at a3
  generalize valS r f n l m st x = q at *
  simp only [lp61, limB] at a3
  simp (maxSteps := 1000000) (disch := first | omega | decide | assumption | simp [scal]) [za_127, za_155, sz_155, loadA_eq ia_115, loadA_eq ia_3, za_59, sz_59, loadA_eq ia_155, o_fieldAddr fa_115_0 (by decide), loadA_eq ia_24, loadA_eq ia_59, loadA_eq ia_127, sz_127, a3]
  rw [rangeE_ready rfl rfl rfl]
  rcases hW with rfl | rfl <;>
  simp (maxSteps := 1000000) (disch := first | omega | decide | assumption | simp [scal]) [za_127, za_155, sz_155, loadA_eq ia_115, loadA_eq ia_3, za_59, sz_59, loadA_eq ia_155, o_fieldAddr fa_115_0 (by decide), loadA_eq ia_24, loadA_eq ia_59, loadA_eq ia_127, sz_127, addWr]
end
end Go.Proofs.Ytiafgimgcbmgaaa.bl
namespace Go.Proofs.Ytiafgimgcbmgaaa.bl
open Go.GE
set_option linter.unusedVariables false
set_option linter.unusedSimpArgs false
set_option maxRecDepth 100000
set_option maxHeartbeats 4000000
theorem vStep_new (lo hi : Int) (a b : Int) : vStep (a, b, false) lo hi = (lo, hi, true) := rfl
theorem vStep_old (lo hi : Int) (a b : Int) : vStep (a, b, true) lo hi = (if a < lo then lo else a, if hi < b then hi else b, true) := rfl
end Go.Proofs.Ytiafgimgcbmgaaa.bl
namespace Go.Proofs.Ytiafgimgcbmgaaa.bl
open Go.GE
set_option linter.unusedVariables false
set_option linter.unusedSimpArgs false
set_option maxRecDepth 100000
set_option maxHeartbeats 4000000
attribute [local simp] runOps_nil runOps_cons runOpsF_nil runOpsF_cons fstS_some fstF_some opStep_eq want_none oStep_true oStep_false fin_pure fin_read fin_alloc fin_write storeB wrN cellV addWr o_move o_assign o_pick o_alloc o_box o_load o_store o_nilCheck o_bin o_un o_extract o_callV o_callB o_callI callV_f callV_y callV_fc o_makeFunc partsA Instr.fill builtin_len builtin_max2 bin_add bin_sub bin_mul bin_quo bin_rem bin_lss bin_leq bin_gtr bin_geq bin_eql bin_neq un_neg un_not bin_shr bin_shl wrap_u64_id opd opds optAll putO nbeq nblt constOk isC ops sub cl cr co bodyOf thenS_normal thenS_ret thenS_exit thenS_goto afterN_normal afterN_ret afterN_exit afterN_goto condS_true condS_false blockS_normal blockS_ret blockS_exit blockS_goto headS normS normK_eq fixS_nil fixS_cons fix1 fixV emptyB keepO_nil keepO_cons roundC_normal roundC_exit roundC_ret roundC_goto sweep_eq sweepD rnm pickR pickW rootsB ptrT renT ptrFn renFn ptrB_flat ptrB_non renB_flat renB_non plainS_some drawS_some fpsOk disj unord range' dropTo enumT undef wrap_i64_id Value.cells mkCells ptrTo scal cellsAt rdN endS_ret resultsA Option.bind_some tupV finish reachN dep ptrL_eq ptrL renL_eq renL ptrV_bool ptrV_int ptrV_string ptrV_nilFunc ptrV_nilIface ptrV_nilPtr ptrV_ptr ptrV_nilSl ptrV_sl ptrV_iface ptrV_agg ptrV_tuple ptrV_func renV_bool renV_int renV_string renV_nilFunc renV_nilIface renV_nilPtr renV_ptr renV_nilSl renV_sl renV_iface renV_agg renV_tuple renV_func gotoS_goto gotoS_normal gotoS_exit gotoS_ret skip_seq sliceE bnd bndHi intOf optOpd keepT_nil keepT_cons keepC_t keepC_f lk_nil lk_cons lkC_t lkC_f has_nil has_cons hasC_t hasC_f rep_nil rep_cons repC_t repC_f put_eq putC_t putC_f mem_nil mem_cons memC_t memC_f idx_nil idx_cons idxC_t idxC_f reach_nil reach_cons reachC_t reachC_f
attribute [local simp] n29_1s n29_3s n29_7s n29_10s n29_11s n29_9s n29_13s n29_16s n29_17s n29_15s n29_18s n29_14s n29_12s n29_8s n29_6s n29_5s n29_20s n29_23s n29_26s n29_27s n29_25s n29_28s n29_24s n29_22s n29_30s n29_31s n29_29s n29_21s n29_19s n29_4s n29_2s n29_0s Try.f29
theorem sv_ren (r f : Int) (b1 off n c b2 off2 m c2 : Nat) (x : Int) (hne : b1 ≠ b2) : optAll (renV (idx [b1, b2]) dep) [shV r f b1 off n c, stV b2 off2 m c2, iv x] = some [shV r f 0 off n c, stV 1 off2 m c2, iv x] := by simp [renV, dep, optAll, idx, nbeq, hne, hne.symm]
noncomputable def valE (r f : Int) (n : Nat) (l : Nat → Ab) (m : Nat) (st : Nat → Int) (x : Int) : Int :=
  if expE r f n l m st ≠ 0 then expE r f n l m st else if (decide (0 ≤ x) && decide (x ≤ 10000)) = false then 1 else if (valS r f n l m st x).2.2 = false then 14 else 0
noncomputable def valP (r f : Int) (n : Nat) (l : Nat → Ab) (m : Nat) (st : Nat → Int) (x : Int) : Int × Int :=
  if valE r f n l m st x = 0 then ((valS r f n l m st x).1, (valS r f n l m st x).2.1) else (0, 0)
theorem exp_ok {r f : Int} {n : Nat} {l : Nat → Ab} {m : Nat} {st : Nat → Int} (h : expE r f n l m st = 0) : Sht r f n l ∧ Asc m st ∧ m ≤ 40 := by
  unfold expE at h
  split at h
  · rename_i h1; exact absurd h h1
  · rename_i h1; exact ptd_chk (by simpa using h1)
section
variable (r f : Int) (b1 off n c b2 off2 m c2 : Nat) {cs cs2 : List Value} {own own2 : Bool} {l : Nat → Ab} {st : Nat → Int} (x : Int) {h : List Blk}
theorem k61 (S : Sht r f n l) (hb : h[b1]? = some (.cells cs 3 true own)) (hb2 : h[b2]? = some (.cells cs2 1 true own2)) (hne : b1 ≠ b2) (hc : AbC cs off n l) (hc2 : IvC cs2 off2 m st) (ha : Asc m st) (hm : m ≤ 1000) (x0 : 0 ≤ x) (x1 : x ≤ 10000) :
    callH LL 61 [ptV r f b1 off n c b2 off2 m c2, iv x] h = some ⟨limV (valS r f n l m st x), h, [b1, b2], []⟩ :=
  callH_2 rfl hb hb2 hne noIdB_flat noIdB_flat (args' := [ptV r f 0 off n c 1 off2 m c2, iv x]) (by simp [renV, dep, optAll, idx, nbeq, hne, hne.symm]) (c61 r f off n c off2 m c2 cs cs2 own own2 x l st S hc hc2 ha hm x0 x1) fun _ => rfl
end
section
variable (r f : Int) (off n c off2 m c2 : Nat) (cs cs2 : List Value) (own own2 : Bool) (x : Int) (l : Nat → Ab) (st : Nat → Int)
theorem c29 (hc : AbC cs off n l) (hc2 : IvC cs2 off2 m st) : LL.run 29 [shV r f 0 off n c, stV 1 off2 m c2, iv x] [.cells cs 3 true own, .cells cs2 1 true own2] = some ⟨.tuple #[.agg #[iv (valP r f n l m st x).1, iv (valP r f n l m st x).2], iv (valE r f n l m st x)], [], []⟩ := by
  refine go (by decide) ?_
  rw [run29 _ _ _ (by simp)]
  by_cases he : expE r f n l m st = 0
  · have a := fun bx => k53a r f 0 off n c 1 off2 m c2 (h := .cells cs 3 true own :: .cells cs2 1 true own2 :: bx) rfl rfl (by decide) hc hc2 he
    obtain ⟨S, ha, hm⟩ := exp_ok he
    cases hx : (decide (0 ≤ x) && decide (x ≤ 10000))
    · have h1 : valE r f n l m st x = 1 := by unfold valE; rw [if_neg (by simp [he]), if_pos hx]
      have h2 : valP r f n l m st x = (0, 0) := by unfold valP; rw [if_neg (by rw [h1]; decide)]
      rw [h1, h2]
      simp (maxSteps := 1000000) (disch := first | omega | decide | assumption | simp [scal]) [za_57, loadA_eq ia_24, za_115, sz_115, o_build za_57 pl_57, sz_57, loadA_eq ia_115, za_127, sz_127, o_fieldAddr fa_127_1 (by decide), loadA_eq ia_4, o_fieldAddr fa_127_0 (by decide), loadA_eq ia_57, loadA_eq ia_127, a, k56, hx]
    · have hx' := hx
      simp only [Bool.and_eq_true, decide_eq_true_eq] at hx'
      have a2 := fun bx => k61 r f 0 off n c 1 off2 m c2 x (h := .cells cs 3 true own :: .cells cs2 1 true own2 :: bx) S rfl rfl (by decide) hc hc2 ha (by omega) hx'.1 hx'.2
      cases hk : (valS r f n l m st x).2.2
      · have h1 : valE r f n l m st x = 14 := by unfold valE; rw [if_neg (by simp [he]), if_neg (by simp [hx]), if_pos hk]
        have h2 : valP r f n l m st x = (0, 0) := by unfold valP; rw [if_neg (by rw [h1]; decide)]
        rw [h1, h2]
        generalize valS r f n l m st x = q at *
        obtain ⟨q1, q2, q3⟩ := q
        simp only at hk
        subst hk
        simp (maxSteps := 1000000) (disch := first | omega | decide | assumption | simp [scal]) [za_57, loadA_eq ia_24, za_115, sz_115, o_build za_57 pl_57, sz_57, loadA_eq ia_115, za_127, sz_127, o_fieldAddr fa_127_1 (by decide), loadA_eq ia_4, o_fieldAddr fa_127_0 (by decide), loadA_eq ia_57, loadA_eq ia_127, a, k56, hx, a2]
      · have h1 : valE r f n l m st x = 0 := by unfold valE; rw [if_neg (by simp [he]), if_neg (by simp [hx]), if_neg (by simp [hk])]
        have h2 : valP r f n l m st x = ((valS r f n l m st x).1, (valS r f n l m st x).2.1) := by unfold valP; rw [if_pos h1]
        rw [h1, h2]
        generalize valS r f n l m st x = q at *
        obtain ⟨q1, q2, q3⟩ := q
        simp only at hk
        subst hk
        simp (maxSteps := 1000000) (disch := first | omega | decide | assumption | simp [scal]) [za_57, loadA_eq ia_24, za_115, sz_115, o_build za_57 pl_57, sz_57, loadA_eq ia_115, za_127, sz_127, o_fieldAddr fa_127_1 (by decide), loadA_eq ia_4, o_fieldAddr fa_127_0 (by decide), loadA_eq ia_57, loadA_eq ia_127, a, k56, hx, a2]
  · have a := fun bx => k53b r f 0 off n c 1 off2 m c2 (h := .cells cs 3 true own :: .cells cs2 1 true own2 :: bx) rfl rfl (by decide) hc hc2 he
    have h1 : valE r f n l m st x = expE r f n l m st := by unfold valE; rw [if_pos he]
    have h2 : valP r f n l m st x = (0, 0) := by unfold valP; rw [if_neg (by rw [h1]; exact he)]
    rw [h1, h2]
    simp (maxSteps := 1000000) (disch := first | omega | decide | assumption | simp [scal]) [za_57, loadA_eq ia_24, za_115, sz_115, o_build za_57 pl_57, sz_57, loadA_eq ia_115, za_127, sz_127, o_fieldAddr fa_127_1 (by decide), loadA_eq ia_4, o_fieldAddr fa_127_0 (by decide), loadA_eq ia_57, loadA_eq ia_127, a, he]
end
end Go.Proofs.Ytiafgimgcbmgaaa.bl
namespace Go.Proofs.Ytiafgimgcbmgaaa.bl
open Go.GE
set_option linter.unusedVariables false
set_option linter.unusedSimpArgs false
set_option maxRecDepth 100000
set_option maxHeartbeats 4000000
section
variable (r f : Int) (b1 off n c b2 off2 m c2 : Nat) {cs cs2 : List Value} {own own2 : Bool} {l : Nat → Ab} {st : Nat → Int} (x : Int) {h : List Blk}
theorem k29 (hb : h[b1]? = some (.cells cs 3 true own)) (hb2 : h[b2]? = some (.cells cs2 1 true own2)) (hne : b1 ≠ b2) (hc : AbC cs off n l) (hc2 : IvC cs2 off2 m st) :
    callH LL 29 [shV r f b1 off n c, stV b2 off2 m c2, iv x] h = some ⟨.tuple #[.agg #[iv (valP r f n l m st x).1, iv (valP r f n l m st x).2], iv (valE r f n l m st x)], h, [b1, b2], []⟩ :=
  callH_2 rfl hb hb2 hne noIdB_flat noIdB_flat (sv_ren r f b1 off n c b2 off2 m c2 x hne) (c29 r f off n c off2 m c2 cs cs2 own own2 x l st hc hc2) fun _ => rfl
end
end Go.Proofs.Ytiafgimgcbmgaaa.bl
namespace Go.Proofs.Ytiafgimgcbmgaaa.bl
open Go.GE
set_option linter.unusedVariables false
set_option linter.unusedSimpArgs false
set_option maxRecDepth 100000
set_option maxHeartbeats 4000000
theorem clash_iff {r f : Int} {n : Nat} {l : Nat → Ab} {m : Nat} {st : Nat → Int} {out : Int} : clashS r f n l m st out = true ↔ ∃ i k : Nat, i < k ∧ k < n ∧ (i : Int) ≠ out ∧ (k : Int) ≠ out ∧ partS m st (l i).h = partS m st (l k).h ∧ needS r f (l i) (l k) = true := by
  unfold clashS
  simp only [anyF_iff, badB, Bool.and_eq_true, Bool.not_eq_true', decide_eq_true_eq, decide_eq_false_iff_not]
  constructor
  · rintro ⟨i, _, hi, k, h0, hk, ⟨⟨h3, h4⟩, h1⟩, h5⟩
    exact ⟨i, k, by omega, by omega, h3, h4, h1, h5⟩
  · rintro ⟨i, k, h0, hk, h3, h4, h1, h5⟩
    exact ⟨i, by omega, by omega, k, by omega, by omega, ⟨⟨h3, h4⟩, h1⟩, h5⟩
theorem part_mono {m : Nat} {st : Nat → Int} (ha : Asc m st) {x y : Int} (h : x ≤ y) : partS m st x ≤ partS m st y := by
  apply Classical.byContradiction
  intro hn
  have hl := part_le (m := m) (st := st) (x := x)
  have h1 : partS m st y < m := by omega
  have h2 := (part_iff ha x h1).2 (by omega)
  have h3 := (part_iff ha y h1).1 (by omega)
  omega
theorem Sht.mono {r f : Int} {n : Nat} {l : Nat → Ab} (S : Sht r f n l) {i k : Nat} (h : i ≤ k) (hk : k < n) : (l i).h ≤ (l k).h := by
  rcases Nat.eq_or_lt_of_le h with rfl | h
  · exact Int.le_refl _
  · have := S.asc i k h hk; omega
theorem few_min {r f : Int} {n : Nat} {l : Nat → Ab} {m : Nat} {st : Nat → Int} (S : Sht r f n l) (ha : Asc m st) (h : clashS r f n l m st (-1) = false) : (fewS r f l n).length ≤ m := by
  obtain ⟨last, G⟩ := fewL_good (r := r) (f := f) (l := l) (n := n) n 0 0 [] (by omega) (by omega) ⟨by simp, by simp, by simp⟩
  rw [← fewS] at G
  generalize fewS r f l n = a at *
  have hno : ∀ i k : Nat, i < k → k < n → needS r f (l i) (l k) = true → partS m st (l i).h ≠ partS m st (l k).h := by
    intro i k h1 h2 h3 h4
    have := (clash_iff (r := r) (f := f) (n := n) (l := l) (m := m) (st := st) (out := -1)).2 ⟨i, k, h1, h2, by omega, by omega, h4, h3⟩
    rw [h] at this; cases this
  have key : ∀ j q, a[j]? = some q → j + 1 ≤ partS m st (l q.2).h := by
    intro j
    induction j with
    | zero =>
      intro q hq
      obtain ⟨g1, g2, g3⟩ := G.mem q (List.mem_of_getElem? hq)
      have := hno _ _ g1 g2 g3
      have := part_mono ha (S.mono (Nat.le_of_lt g1) g2)
      omega
    | succ j ih =>
      intro q hq
      have hlt : j < a.length := by have := (List.getElem?_eq_some_iff.1 hq).1; omega
      have hp : a[j]? = some a[j] := List.getElem?_eq_getElem hlt
      have h1 := ih _ hp
      have h2 := G.chain j _ _ hp hq
      obtain ⟨g1, g2, g3⟩ := G.mem q (List.mem_of_getElem? hq)
      have h3 := hno _ _ g1 g2 g3
      have h4 := part_mono ha (S.mono (Nat.le_of_lt g1) g2)
      have h5 := part_mono ha (S.mono h2 (by omega))
      omega
  rcases Nat.eq_zero_or_pos a.length with h0 | h0
  · omega
  · have hp : a[a.length - 1]? = some a[a.length - 1] := List.getElem?_eq_getElem (by omega)
    have := key _ _ hp
    have := part_le (m := m) (st := st) (x := (l a[a.length - 1].2).h)
    omega
end Go.Proofs.Ytiafgimgcbmgaaa.bl
namespace Go.Proofs.Ytiafgimgcbmgaaa.bl
open Go.GE
set_option linter.unusedVariables false
set_option linter.unusedSimpArgs false
set_option maxRecDepth 100000
set_option maxHeartbeats 4000000
attribute [local simp] runOps_nil runOps_cons runOpsF_nil runOpsF_cons fstS_some fstF_some opStep_eq want_none oStep_true oStep_false fin_pure fin_read fin_alloc fin_write storeB wrN cellV addWr o_move o_assign o_pick o_alloc o_box o_load o_store o_nilCheck o_bin o_un o_extract o_callV o_callB o_callI callV_f callV_y callV_fc o_makeFunc partsA Instr.fill builtin_len builtin_max2 bin_add bin_sub bin_mul bin_quo bin_rem bin_lss bin_leq bin_gtr bin_geq bin_eql bin_neq un_neg un_not bin_shr bin_shl wrap_u64_id opd opds optAll putO nbeq nblt constOk isC ops sub cl cr co bodyOf thenS_normal thenS_ret thenS_exit thenS_goto afterN_normal afterN_ret afterN_exit afterN_goto condS_true condS_false blockS_normal blockS_ret blockS_exit blockS_goto headS normS normK_eq fixS_nil fixS_cons fix1 fixV emptyB keepO_nil keepO_cons roundC_normal roundC_exit roundC_ret roundC_goto sweep_eq sweepD rnm pickR pickW rootsB ptrT renT ptrFn renFn ptrB_flat ptrB_non renB_flat renB_non plainS_some drawS_some fpsOk disj unord range' dropTo enumT undef wrap_i64_id Value.cells mkCells ptrTo scal cellsAt rdN endS_ret resultsA Option.bind_some tupV finish reachN dep ptrL_eq ptrL renL_eq renL ptrV_bool ptrV_int ptrV_string ptrV_nilFunc ptrV_nilIface ptrV_nilPtr ptrV_ptr ptrV_nilSl ptrV_sl ptrV_iface ptrV_agg ptrV_tuple ptrV_func renV_bool renV_int renV_string renV_nilFunc renV_nilIface renV_nilPtr renV_ptr renV_nilSl renV_sl renV_iface renV_agg renV_tuple renV_func gotoS_goto gotoS_normal gotoS_exit gotoS_ret skip_seq sliceE bnd bndHi intOf optOpd keepT_nil keepT_cons keepC_t keepC_f lk_nil lk_cons lkC_t lkC_f has_nil has_cons hasC_t hasC_f rep_nil rep_cons repC_t repC_f put_eq putC_t putC_f mem_nil mem_cons memC_t memC_f idx_nil idx_cons idxC_t idxC_f reach_nil reach_cons reachC_t reachC_f
attribute [local simp] n43_1s n43_3s n43_4s n43_2s n43_0s Try.f43
/-- the hours of a number's bits -/
def setL (w i : Nat) : List Int := ((List.range i).filter fun (h : Nat) => decide (w / 2 ^ h % 2 = 1)).map fun (h : Nat) => (h : Int)
theorem setL_len {w i : Nat} : (setL w i).length ≤ i := by
  unfold setL
  rw [List.length_map]
  have := List.length_filter_le (fun (h : Nat) => decide (w / 2 ^ h % 2 = 1)) (List.range i)
  simpa using this
theorem setL_succ {w i : Nat} : setL w (i + 1) = if w / 2 ^ i % 2 = 1 then setL w i ++ [(i : Int)] else setL w i := by
  unfold setL
  rw [List.range_succ, List.filter_append, List.filter_cons]
  by_cases h : w / 2 ^ i % 2 = 1 <;> simp [h]
theorem c43 (a b c : Int) : LL.run 43 [iv a, iv b, iv c] [] = some ⟨.agg #[iv a, iv b, iv c], [], []⟩ := by
  refine go (by decide) ?_
  rw [run43 _ _ _ (by simp)]
  simp (maxSteps := 1000000) (disch := first | omega | decide | assumption | simp [scal]) [za_59, za_57, o_build za_57 pl_57, o_build za_59 pl_59, sz_59, loadA_eq ia_59]
theorem k43 (a b c : Int) (h : List Blk) : callH LL 43 [iv a, iv b, iv c] h = some ⟨.agg #[iv a, iv b, iv c], h, [], []⟩ :=
  callH_plain (c43 a b c) rfl rfl
end Go.Proofs.Ytiafgimgcbmgaaa.bl
namespace Go.Proofs.Ytiafgimgcbmgaaa.bl
open Go.GE
set_option linter.unusedVariables false
set_option linter.unusedSimpArgs false
set_option maxRecDepth 100000
set_option maxHeartbeats 4000000
abbrev uv (n : Nat) : Value := .int .u8 (n : Int)
end Go.Proofs.Ytiafgimgcbmgaaa.bl
namespace Go.Proofs.Ytiafgimgcbmgaaa.bl
open Go.GE
set_option linter.unusedVariables false
set_option linter.unusedSimpArgs false
set_option maxRecDepth 100000
set_option maxHeartbeats 4000000
theorem chkL_of {l : Nat → Ab} : ∀ k i last, (∀ j, i ≤ j → j < i + k → OkA (l j)) → (0 < k → last < (l i).h) → (∀ j, i ≤ j → j + 1 < i + k → (l j).h < (l (j + 1)).h) → chkL l k i last = 0 := by
  intro k
  induction k with
  | zero => intro i last _ _ _; rfl
  | succ k ih =>
    intro i last h1 h2 h3
    unfold chkL
    have g := (okA_iff _).2 (h1 i (by omega) (by omega))
    rw [if_neg (by simp [g]), if_neg (by have := h2 (by omega); omega)]
    exact ih _ _ (fun j a b => h1 j (by omega) (by omega)) (fun hk => h3 i (by omega) (by omega)) (fun j a b => h3 j (by omega) (by omega))
theorem chk_of {r f : Int} {n : Nat} {l : Nat → Ab} (S : Sht r f n l) : chkS r f n l = 0 := by
  obtain ⟨a, b, c, d⟩ := S.dr
  have h1 := S.n1
  have h2 := S.n40
  unfold chkS
  rw [if_neg (by simp [a, b, c, d]), if_neg (by omega), if_neg (by omega)]
  exact chkL_of _ _ _ (fun j _ hj => S.ok j (by omega)) (fun _ => by have := (S.ok 0 (by omega)).h0; omega) (fun j _ hj => S.asc j (j + 1) (by omega) (by omega))
/-- a list of absolutes that make a sheet -/
theorem sht_of {r f : Int} {A : List Ab} (d : Dr r f) (h1 : 1 ≤ A.length) (h2 : A.length ≤ 40) (ok : ∀ a ∈ A, OkA a) (asc : A.Pairwise fun x y => x.h < y.h) : Sht r f A.length (abAt A) := by
  have key : ∀ i (h : i < A.length), abAt A i = A[i] := fun i h => by simp [abAt, h]
  refine ⟨d, h1, h2, fun i hi => by rw [key i hi]; exact ok _ (List.getElem_mem _), fun i j hij hj => ?_⟩
  rw [key i (by omega), key j hj]
  exact List.pairwise_iff_getElem.1 asc i j (by omega) hj hij
end Go.Proofs.Ytiafgimgcbmgaaa.bl
namespace Go.Proofs.Ytiafgimgcbmgaaa.bl
open Go.GE
set_option linter.unusedVariables false
set_option linter.unusedSimpArgs false
set_option maxRecDepth 100000
set_option maxHeartbeats 4000000
theorem part_eq {m : Nat} {st : Nat → Int} (ha : Asc m st) {x y : Int} (h : x ≤ y) : partS m st x = partS m st y ↔ ∀ j, j < m → st j < y → st j < x := by
  have hm := part_mono ha h
  constructor
  · intro e j hj h1
    have := (part_iff ha y hj).1 h1
    exact (part_iff ha x hj).2 (by omega)
  · intro e
    apply Classical.byContradiction
    intro hne
    have hl := part_le (m := m) (st := st) (x := y)
    have h1 : partS m st x < m := by omega
    have h2 := (part_iff ha y h1).2 (by omega)
    have h3 := (part_iff ha x h1).1 (e _ h1 h2)
    omega
/-- the values at an hour: the greatest least one, the least greatest one -/
theorem valL_spec {r f : Int} {l : Nat → Ab} {m : Nat} {st : Nat → Int} {x : Int} {pt : Nat} : ∀ k i p,
    ((valL r f l m st x pt k i p).2.2 = true ↔ p.2.2 = true ∨ ∃ j, i ≤ j ∧ j < i + k ∧ partS m st (l j).h = pt) ∧
    (p.2.2 = true → p.1 ≤ (valL r f l m st x pt k i p).1 ∧ (valL r f l m st x pt k i p).2.1 ≤ p.2.1) ∧
    (∀ j, i ≤ j → j < i + k → partS m st (l j).h = pt → arLo r f (l j) x ≤ (valL r f l m st x pt k i p).1 ∧ (valL r f l m st x pt k i p).2.1 ≤ arHi r f (l j) x) ∧
    ((p.2.2 = true ∧ (valL r f l m st x pt k i p).1 = p.1) ∨ (∃ j, i ≤ j ∧ j < i + k ∧ partS m st (l j).h = pt ∧ (valL r f l m st x pt k i p).1 = arLo r f (l j) x) ∨ (valL r f l m st x pt k i p).2.2 = false) ∧
    ((p.2.2 = true ∧ (valL r f l m st x pt k i p).2.1 = p.2.1) ∨ (∃ j, i ≤ j ∧ j < i + k ∧ partS m st (l j).h = pt ∧ (valL r f l m st x pt k i p).2.1 = arHi r f (l j) x) ∨ (valL r f l m st x pt k i p).2.2 = false) := by
  intro k
  induction k with
  | zero =>
    intro i p
    refine ⟨by simp [valL]; intro j h1 h2; omega, by simp [valL], fun j h1 h2 => by omega, ?_, ?_⟩ <;>
    · rcases Bool.eq_false_or_eq_true p.2.2 with h | h <;> simp [valL, h]
  | succ k ih =>
    intro i p
    unfold valL
    by_cases hp : partS m st (l i).h = pt
    · rw [if_pos hp]
      obtain ⟨a, b, q⟩ := p
      have key : ∀ u v : Int, (arLo r f (l i) x ≤ u) → (u = arLo r f (l i) x ∨ (q = true ∧ u = a)) → (v ≤ arHi r f (l i) x) → (v = arHi r f (l i) x ∨ (q = true ∧ v = b)) → (q = true → a ≤ u ∧ v ≤ b) →
          ((valL r f l m st x pt k (i + 1) (u, v, true)).2.2 = true ↔ q = true ∨ ∃ j, i ≤ j ∧ j < i + (k + 1) ∧ partS m st (l j).h = pt) ∧
          (q = true → a ≤ (valL r f l m st x pt k (i + 1) (u, v, true)).1 ∧ (valL r f l m st x pt k (i + 1) (u, v, true)).2.1 ≤ b) ∧ (∀ j, i ≤ j → j < i + (k + 1) → partS m st (l j).h = pt → arLo r f (l j) x ≤ (valL r f l m st x pt k (i + 1) (u, v, true)).1 ∧ (valL r f l m st x pt k (i + 1) (u, v, true)).2.1 ≤ arHi r f (l j) x) ∧
          ((q = true ∧ (valL r f l m st x pt k (i + 1) (u, v, true)).1 = a) ∨ (∃ j, i ≤ j ∧ j < i + (k + 1) ∧ partS m st (l j).h = pt ∧ (valL r f l m st x pt k (i + 1) (u, v, true)).1 = arLo r f (l j) x) ∨ (valL r f l m st x pt k (i + 1) (u, v, true)).2.2 = false) ∧
          ((q = true ∧ (valL r f l m st x pt k (i + 1) (u, v, true)).2.1 = b) ∨ (∃ j, i ≤ j ∧ j < i + (k + 1) ∧ partS m st (l j).h = pt ∧ (valL r f l m st x pt k (i + 1) (u, v, true)).2.1 = arHi r f (l j) x) ∨ (valL r f l m st x pt k (i + 1) (u, v, true)).2.2 = false) := by
        intro u v g1 g2 g3 g4 g5
        obtain ⟨i1, i2, i3, i4, i5⟩ := ih (i + 1) (u, v, true)
        generalize valL r f l m st x pt k (i + 1) (u, v, true) = z at *
        have i2' := i2 rfl
        have i1' : z.2.2 = true := i1.2 (Or.inl rfl)
        refine ⟨⟨fun _ => Or.inr ⟨i, Nat.le_refl _, by omega, hp⟩, fun _ => i1'⟩, fun hq => ?_, fun j h1 h2 h3 => ?_, ?_, ?_⟩
        · have := g5 hq; exact ⟨Int.le_trans this.1 i2'.1, Int.le_trans i2'.2 this.2⟩
        · rcases Nat.eq_or_lt_of_le h1 with rfl | h1
          · exact ⟨Int.le_trans g1 i2'.1, Int.le_trans i2'.2 g3⟩
          · exact i3 j (by omega) (by omega) h3
        · rcases i4 with ⟨_, h⟩ | ⟨j, h1, h2, h3, h4⟩ | h
          · rcases g2 with g | ⟨g, g'⟩
            · exact Or.inr (Or.inl ⟨i, Nat.le_refl _, by omega, hp, h.trans g⟩)
            · exact Or.inl ⟨g, h.trans g'⟩
          · exact Or.inr (Or.inl ⟨j, by omega, by omega, h3, h4⟩)
          · exact Or.inr (Or.inr h)
        · rcases i5 with ⟨_, h⟩ | ⟨j, h1, h2, h3, h4⟩ | h
          · rcases g4 with g | ⟨g, g'⟩
            · exact Or.inr (Or.inl ⟨i, Nat.le_refl _, by omega, hp, h.trans g⟩)
            · exact Or.inl ⟨g, h.trans g'⟩
          · exact Or.inr (Or.inl ⟨j, by omega, by omega, h3, h4⟩)
          · exact Or.inr (Or.inr h)
      cases q
      · rw [vStep_new]; exact key _ _ (Int.le_refl _) (Or.inl rfl) (Int.le_refl _) (Or.inl rfl) (by simp)
      · rw [vStep_old]
        refine key _ _ ?_ ?_ ?_ ?_ ?_
        · split <;> omega
        · split
          · exact Or.inl rfl
          · exact Or.inr ⟨rfl, rfl⟩
        · split <;> omega
        · split
          · exact Or.inl rfl
          · exact Or.inr ⟨rfl, rfl⟩
        · intro _
          constructor
          · split <;> omega
          · split <;> omega
    · rw [if_neg hp]
      obtain ⟨i1, i2, i3, i4, i5⟩ := ih (i + 1) p
      have hx : ∀ j, i ≤ j → partS m st (l j).h = pt → i + 1 ≤ j := fun j h1 h2 => by
        rcases Nat.eq_or_lt_of_le h1 with rfl | h1
        · exact absurd h2 hp
        · exact h1
      refine ⟨i1.trans ⟨?_, ?_⟩, i2, fun j h1 h2 h3 => i3 j (hx j h1 h3) (by omega) h3, ?_, ?_⟩
      · rintro (h | ⟨j, h1, h2, h3⟩)
        · exact Or.inl h
        · exact Or.inr ⟨j, by omega, by omega, h3⟩
      · rintro (h | ⟨j, h1, h2, h3⟩)
        · exact Or.inl h
        · exact Or.inr ⟨j, hx j h1 h3, by omega, h3⟩
      · rcases i4 with h | ⟨j, h1, h2, h3, h4⟩ | h
        · exact Or.inl h
        · exact Or.inr (Or.inl ⟨j, by omega, by omega, h3, h4⟩)
        · exact Or.inr (Or.inr h)
      · rcases i5 with h | ⟨j, h1, h2, h3, h4⟩ | h
        · exact Or.inl h
        · exact Or.inr (Or.inl ⟨j, by omega, by omega, h3, h4⟩)
        · exact Or.inr (Or.inr h)
end Go.Proofs.Ytiafgimgcbmgaaa.bl
namespace Go.Proofs.Ytiafgimgcbmgaaa.bl
open Go.GE
set_option linter.unusedVariables false
set_option linter.unusedSimpArgs false
set_option maxRecDepth 100000
set_option maxHeartbeats 4000000
theorem stpL_of {st : Nat → Int} : ∀ k i last, (∀ j, i ≤ j → j < i + k → 0 ≤ st j ∧ st j ≤ 10000) → (0 < k → last < st i) → (∀ j, i ≤ j → j + 1 < i + k → st j < st (j + 1)) → stpL st k i last = 0 := by
  intro k
  induction k with
  | zero => intro i last _ _ _; rfl
  | succ k ih =>
    intro i last h1 h2 h3
    unfold stpL
    have g := h1 i (by omega) (by omega)
    rw [if_neg (by simp [g.1, g.2]), if_neg (by have := h2 (by omega); omega)]
    exact ih _ _ (fun j a b => h1 j (by omega) (by omega)) (fun hk => h3 i (by omega) (by omega)) (fun j a b => h3 j (by omega) (by omega))
theorem ptd_of {r f : Int} {n : Nat} {l : Nat → Ab} {m : Nat} {st : Nat → Int} (S : Sht r f n l) (ha : Asc m st) (hm : m ≤ 40) (hb : ∀ j, j < m → 0 ≤ st j ∧ st j ≤ 10000) : ptdE r f n l m st = 0 := by
  unfold ptdE
  rw [if_neg (by simp [chk_of S])]
  unfold stpS
  rw [if_neg (by omega)]
  exact stpL_of _ _ _ (fun j _ h => hb j (by omega)) (fun h => by have := hb 0 h; omega) (fun j _ h => ha j (j + 1) (by omega) (by omega))
theorem exp_of {r f : Int} {n : Nat} {l : Nat → Ab} {m : Nat} {st : Nat → Int} (h : ptdE r f n l m st = 0) : expE r f n l m st = if clashS r f n l m st (-1) then 13 else 0 := by
  unfold expE; rw [if_neg (by simp [h])]
theorem asc_pw {x : List Int} (h : x.Pairwise fun a b => a < b) : Asc x.length (inAt x) := by
  intro i j hij hj
  have e : ∀ i (h : i < x.length), inAt x i = x[i] := fun i h => by simp [inAt, h]
  rw [e i (by omega), e j hj]
  exact List.pairwise_iff_getElem.1 h i j (by omega) hj hij
theorem set_mem {w i : Nat} {v : Int} : v ∈ setL w i ↔ ∃ h : Nat, h < i ∧ w / 2 ^ h % 2 = 1 ∧ v = h := by
  unfold setL
  simp only [List.mem_map, List.mem_filter, List.mem_range, decide_eq_true_eq]
  constructor
  · rintro ⟨h, ⟨h1, h2⟩, h3⟩; exact ⟨h, h1, h2, h3.symm⟩
  · rintro ⟨h, h1, h2, h3⟩; exact ⟨h, ⟨h1, h2⟩, h3.symm⟩
theorem in_mem {x : List Int} {j : Nat} (h : j < x.length) : inAt x j ∈ x := by
  have e : inAt x j = x[j] := by simp [inAt, h]
  rw [e]; exact List.getElem_mem _
theorem mem_in {x : List Int} {v : Int} (h : v ∈ x) : ∃ j, j < x.length ∧ inAt x j = v := by
  obtain ⟨j, hj, e⟩ := List.mem_iff_getElem.1 h
  exact ⟨j, hj, by simp [inAt, hj, e]⟩
end Go.Proofs.Ytiafgimgcbmgaaa.bl
namespace Go.GE
theorem rdN_mid (cs : List Value) : ∀ (k o : Nat), o + k ≤ cs.length → rdN cs o k = some ((cs.drop o).take k) := by
  intro k
  induction k with
  | zero => intro o h; simp [rdN]
  | succ k ih =>
    intro o h
    have h1 := ih (o + 1) (by omega)
    have h2 : o < cs.length := by omega
    unfold rdN
    rw [h1]
    simp only [List.getElem?_eq_getElem h2]
    rw [← List.getElem_cons_drop h2]
    rfl
end Go.GE
namespace Go.Proofs.Ytiafgimgcbmgaaa.bl
open Go.GE
set_option linter.unusedVariables false
set_option linter.unusedSimpArgs false
end Go.Proofs.Ytiafgimgcbmgaaa.bl
namespace Go.Proofs.Ytiafgimgcbmgaaa.bl
open Go.GE
set_option linter.unusedVariables false
set_option linter.unusedSimpArgs false
set_option maxRecDepth 100000
set_option maxHeartbeats 4000000
abbrev tv (n : Nat) : Value := .int .u16 (n : Int)
end Go.Proofs.Ytiafgimgcbmgaaa.bl
namespace Go.Proofs.Ytiafgimgcbmgaaa.bl
open Go.GE
set_option linter.unusedVariables false
set_option linter.unusedSimpArgs false
set_option maxRecDepth 100000
set_option maxHeartbeats 4000000
theorem fewR_of {r f : Int} {n : Nat} {l : Nat → Ab} (S : Sht r f n l) : (fewR r f n l).length = (fewS r f l n).length := by
  unfold fewR
  rw [if_pos (chk_of S)]
  simp [stpsOf]
theorem abAt_get {A : List Ab} {i : Nat} (h : i < A.length) : abAt A i = A[i] := by simp [abAt, h]
end Go.Proofs.Ytiafgimgcbmgaaa.bl
namespace Go.Proofs.Ytiafgimgcbmgaaa.bl
open Go.GE Go.ChangeShapes Go.WideShapes Go.RowKit
set_option linter.unusedVariables false
set_option linter.unusedSimpArgs false
set_option maxRecDepth 100000
set_option maxHeartbeats 4000000
section
variable {H : Type} {enc : TypeId × Value → H} {W : World} {base b0 : Nat} {v : Value} {d : DataW H} {p : List MemPlace}
theorem open_u8 (hv : Value.okWide Try.prog W .any b0 5 v) (hd : DataW.Trod enc Try.prog W base (fun _ => true) true 5 v d p) : ∃ n : Nat, v = uv n ∧ n < 256 := by
  obtain ⟨y, rfl, _, _, h⟩ := open_int Try.underlying5 hv hd
  obtain ⟨n, rfl, hn⟩ := nat_of (b := 255) (u8_wf h)
  exact ⟨n, rfl, hn⟩
theorem open_u16 (hv : Value.okWide Try.prog W .any b0 50 v) (hd : DataW.Trod enc Try.prog W base (fun _ => true) true 50 v d p) : ∃ n : Nat, v = tv n ∧ n < 65536 := by
  obtain ⟨y, rfl, _, _, h⟩ := open_int (show Try.prog.underlying 50 = some (.int .u16) from by kernel_rfl) hv hd
  obtain ⟨n, rfl, hn⟩ := nat_of (b := 65535) (u16_wf h)
  exact ⟨n, rfl, hn⟩
end
end Go.Proofs.Ytiafgimgcbmgaaa.bl
namespace Go.Proofs.Ytiafgimgcbmgaaa.bl
open Go.GE
set_option linter.unusedVariables false
set_option linter.unusedSimpArgs false
set_option maxRecDepth 100000
set_option maxHeartbeats 4000000
theorem rdN_all {cs : List Value} {n : Nat} (h : cs.length = n) : rdN cs 0 n = some cs := by
  rw [rdN_mid cs n 0 (by omega), List.drop_zero, List.take_of_length_le (by omega)]
end Go.Proofs.Ytiafgimgcbmgaaa.bl
namespace Go.Proofs.Ytiafgimgcbmgaaa.bl
open Go.GE
set_option linter.unusedVariables false
set_option linter.unusedSimpArgs false
set_option maxRecDepth 100000
set_option maxHeartbeats 4000000
def bitB (w h : Nat) : Bool := decide (w / 2 ^ h % 2 = 1)
end Go.Proofs.Ytiafgimgcbmgaaa.bl
namespace Go.Proofs.Ytiafgimgcbmgaaa.bl
open Go.GE
set_option linter.unusedVariables false
set_option linter.unusedSimpArgs false
set_option maxRecDepth 100000
set_option maxHeartbeats 4000000
section
variable {r f : Int} {A : List Ab} {w : Nat} (S : Sht r f A.length (abAt A)) (hb : ∀ a ∈ A, 0 ≤ a.h ∧ a.h ≤ 9 ∧ -20 ≤ a.hi ∧ a.lo ≤ 39)
theorem mem_at {i : Nat} (h : i < A.length) : abAt A i ∈ A := by rw [abAt_get h]; exact List.getElem_mem h
include S in
end
end Go.Proofs.Ytiafgimgcbmgaaa.bl
namespace Go.Proofs.Ytiafgimgcbmgaaa.bl
open Go.GE
set_option linter.unusedVariables false
set_option linter.unusedSimpArgs false
set_option maxRecDepth 100000
set_option maxHeartbeats 4000000
attribute [local simp] runOps_nil runOps_cons runOpsF_nil runOpsF_cons fstS_some fstF_some opStep_eq want_none oStep_true oStep_false fin_pure fin_read fin_alloc fin_write storeB wrN cellV addWr o_move o_assign o_pick o_alloc o_box o_load o_store o_nilCheck o_bin o_un o_extract o_callV o_callB o_callI callV_f callV_y callV_fc o_makeFunc partsA Instr.fill builtin_len builtin_max2 bin_add bin_sub bin_mul bin_quo bin_rem bin_lss bin_leq bin_gtr bin_geq bin_eql bin_neq un_neg un_not bin_shr bin_shl wrap_u64_id opd opds optAll putO nbeq nblt constOk isC ops sub cl cr co bodyOf thenS_normal thenS_ret thenS_exit thenS_goto afterN_normal afterN_ret afterN_exit afterN_goto condS_true condS_false blockS_normal blockS_ret blockS_exit blockS_goto headS normS normK_eq fixS_nil fixS_cons fix1 fixV emptyB keepO_nil keepO_cons roundC_normal roundC_exit roundC_ret roundC_goto sweep_eq sweepD rnm pickR pickW rootsB ptrT renT ptrFn renFn ptrB_flat ptrB_non renB_flat renB_non plainS_some drawS_some fpsOk disj unord range' dropTo enumT undef wrap_i64_id Value.cells mkCells ptrTo scal cellsAt rdN endS_ret resultsA Option.bind_some tupV finish reachN dep ptrL_eq ptrL renL_eq renL ptrV_bool ptrV_int ptrV_string ptrV_nilFunc ptrV_nilIface ptrV_nilPtr ptrV_ptr ptrV_nilSl ptrV_sl ptrV_iface ptrV_agg ptrV_tuple ptrV_func renV_bool renV_int renV_string renV_nilFunc renV_nilIface renV_nilPtr renV_ptr renV_nilSl renV_sl renV_iface renV_agg renV_tuple renV_func gotoS_goto gotoS_normal gotoS_exit gotoS_ret skip_seq sliceE bnd bndHi intOf optOpd keepT_nil keepT_cons keepC_t keepC_f lk_nil lk_cons lkC_t lkC_f has_nil has_cons hasC_t hasC_f rep_nil rep_cons repC_t repC_f put_eq putC_t putC_f mem_nil mem_cons memC_t memC_f idx_nil idx_cons idxC_t idxC_f reach_nil reach_cons reachC_t reachC_f
attribute [local simp] n9_1s n9_3s n9_5s n9_7s n9_9s n9_12s n9_16s n9_19s n9_20s n9_18s n9_24s n9_26s n9_29s n9_31s n9_32s n9_30s n9_28s n9_34s n9_37s n9_38s n9_36s n9_39s n9_35s n9_33s n9_27s n9_25s n9_23s n9_22s n9_40s n9_21s n9_17s n9_15s n9_14s n9_14g n9_13s n9_11s n9_42s n9_45s n9_49s n9_52s n9_53s n9_51s n9_57s n9_60s n9_62s n9_63s n9_61s n9_59s n9_65s n9_67s n9_69s n9_70s n9_68s n9_66s n9_64s n9_58s n9_56s n9_55s n9_71s n9_54s n9_50s n9_48s n9_47s n9_47g n9_46s n9_44s n9_74s n9_77s n9_78s n9_76s n9_79s n9_75s n9_73s n9_81s n9_84s n9_87s n9_88s n9_86s n9_89s n9_85s n9_83s n9_92s n9_96s n9_99s n9_100s n9_98s n9_104s n9_106s n9_108s n9_111s n9_112s n9_110s n9_113s n9_109s n9_107s n9_105s n9_103s n9_102s n9_114s n9_101s n9_97s n9_95s n9_94s n9_94g n9_93s n9_91s n9_116s n9_117s n9_115s n9_90s n9_82s n9_80s n9_72s n9_43s n9_41s n9_10s n9_8s n9_6s n9_4s n9_2s n9_0s Try.f9
theorem bin_and1u {P : Program} {t : TypeId} {c : Bool} {w : Nat} (h : w < 2 ^ 16) : binA P .and t c (.int .u16 (w : Int)) (.int .u16 1) = some (.int .u16 ((w % 2 : Nat) : Int)) := by
  have e : (BitVec.ofInt 16 (w : Int) &&& BitVec.ofInt 16 1).toNat = w % 2 := by
    rw [BitVec.ofInt_natCast]
    rw [show BitVec.ofInt 16 1 = BitVec.ofNat 16 1 from rfl, BitVec.toNat_and, BitVec.toNat_ofNat, BitVec.toNat_ofNat, Nat.mod_eq_of_lt h, Nat.mod_eq_of_lt (by decide : 1 < 2 ^ 16), Nat.and_one_is_mod]
  have e' : IntKind.u16.wrap ((BitVec.ofInt 16 (w : Int) &&& BitVec.ofInt 16 1).toNat : Int) = ((w % 2 : Nat) : Int) := by
    rw [e]
    have : w % 2 < 2 := Nat.mod_lt _ (by decide)
    simp [IntKind.wrap, IntKind.bits, IntKind.signed]
    omega
  show some (Value.int .u16 (IntKind.u16.wrap ((BitVec.ofInt 16 (w : Int) &&& BitVec.ofInt 16 1).toNat : Int))) = _
  rw [e']
theorem fdiv_powu {w i : Nat} (hi : i < 16) : ((w : Int).fdiv (2 ^ min i IntKind.u16.bits)) = ((w / 2 ^ i : Nat) : Int) := by
  rw [show min i IntKind.u16.bits = i from Nat.min_eq_left (Nat.le_of_lt hi), Int.fdiv_eq_ediv_of_nonneg _ (by exact_mod_cast Nat.zero_le _)]
  simp
@[irreducible] def bC (c : Nat → Nat) : List Value := (List.range 12).map fun k => uv (c k)
@[irreducible] def tB (V : Nat → Int) (i : Nat) : List Value := (List.range 12).map fun k => iv (if k < i then V k else 0)
theorem bC_len {c : Nat → Nat} : (bC c).length = 12 := by simp [bC]
theorem tB_len {V : Nat → Int} {i : Nat} : (tB V i).length = 12 := by simp [tB]
theorem bC_all {c : Nat → Nat} : (bC c).all scal = true := by simp [bC, scal]
theorem tB_all {V : Nat → Int} {i : Nat} : (tB V i).all scal = true := by simp [tB, scal]
theorem bC_arr {c : Nat → Nat} : (bC c).toArray.all scal 0 12 = true := by
  have h : (bC c).toArray.size = 12 := by simp [bC_len]
  have : (bC c).toArray.all scal 0 (bC c).toArray.size = true := by simp [bC_all]
  rwa [h] at this
theorem bC_get {c : Nat → Nat} {i : Nat} (h : i < 12) : (bC c)[i]? = some (uv (c i)) := by simp [bC, h]
theorem tB_get {V : Nat → Int} {i k : Nat} (h : k < 12) (h' : k < i) : (tB V i)[k]? = some (iv (V k)) := by simp [tB, h, h']
theorem tB_set {V : Nat → Int} {i : Nat} (h : i < 12) : (tB V i).set i (iv (V i)) = tB V (i + 1) := by
  apply List.ext_getElem?
  intro k
  rw [List.getElem?_set]
  by_cases e : i = k
  · subst e
    rw [if_pos rfl, tB_len, if_pos h, tB_get h (by omega)]
  · rw [if_neg e]
    by_cases hk : k < 12
    · simp only [tB, List.getElem?_map, List.getElem?_range hk, Option.map_some]
      by_cases h2 : k < i
      · rw [if_pos h2, if_pos (by omega)]
      · rw [if_neg h2, if_neg (by omega)]
    · rw [List.getElem?_eq_none (by rw [tB_len]; omega), List.getElem?_eq_none (by rw [tB_len]; omega)]
theorem tB_zero {V : Nat → Int} : tB V 0 = [iv 0, iv 0, iv 0, iv 0, iv 0, iv 0, iv 0, iv 0, iv 0, iv 0, iv 0, iv 0] := by
  unfold tB
  simp [List.range, List.range.loop]
theorem tB_ptr {V : Nat → Int} {i : Nat} : ptrL 5 (tB V i) = [] := by rw [← ptrL_eq]; exact ptrV_scal tB_all
theorem tB_ren {V : Nat → Int} {i : Nat} {f : Nat → Option Nat} : renL f 5 (tB V i) = some (tB V i) := by rw [← renL_eq]; exact optAll_scal (d := 4) tB_all
def rd12 (cs : List Value) : Option Value := (rdN cs 0 12).map fun l => .agg l.toArray
theorem ld55 {h : List Blk} {b : Nat} : loadA Try.prog h 55 b 0 = (match cellsAt h b with | some cs => rd12 cs | none => none) := by
  rw [loadA_eq (show aggK Try.prog 55 = some (true, 12) by kernel_rfl)]
  rfl
theorem rd12_B {V : Nat → Int} {i : Nat} : rd12 (tB V i) = some (.agg (tB V i).toArray) := by unfold rd12; rw [rdN_all tB_len]; rfl
/-- the true values: changes c, steps w -/
def trV' (r f : Int) (c : Nat → Nat) (w : Nat) : Nat → Int
  | 0 => 500
  | i + 1 => if bitB w i then trV' r f c w i + 7 * ((c i : Int) - 128) else trV' r f c w i + ((c i : Int) % (r + f + 1) - f)
theorem trV_bd {r f : Int} {c : Nat → Nat} {w : Nat} (hr : 0 ≤ r ∧ r < 20) (hf : 0 ≤ f ∧ f < 20) (hc : ∀ i, c i < 256) : ∀ i : Nat, 500 - 1000 * (i : Int) ≤ trV' r f c w i ∧ trV' r f c w i ≤ 500 + 1000 * i := by
  intro i
  induction i with
  | zero => simp [trV']
  | succ i ih =>
    unfold trV'
    have := hc i
    have m1 := Int.emod_nonneg (c i : Int) (show r + f + 1 ≠ 0 by omega)
    have m2 := Int.emod_lt_of_pos (c i : Int) (show 0 < r + f + 1 by omega)
    split <;> omega
section
variable (r f : Int) (off n cp w : Nat) {cs : List Value} {own : Bool} (c : Nat → Nat)
theorem l9_0 (hr : 0 ≤ r ∧ r < 20) (hf : 0 ≤ f ∧ f < 20) (hc : ∀ i, c i < 256) (hw : w < 65536) : ∀ q i : Nat, i + q = 11 →
    lpB Try.prog LL ⟨9, 175, 1, none⟩ n9_14 n9_15 ⟨[(3, tv w), (4, .slice (some ⟨0, off, none⟩) n cp), (7, pp 1), (11, pp 2), (12, pp 4), (13, iv (trV' r f c w i)), (14, wh 5 (setL w i).length), (34, iv i)],
      [.cells cs 2 true own, .cells (bC c) 1 true true, shB r f 3 0 0 0, E3, .cells (tB (trV' r f c w) i) 1 true true, iB (setL w i)], []⟩ =
      some (.exit 0, ⟨[(4, .slice (some ⟨0, off, none⟩) n cp), (11, pp 1), (12, pp 3), (14, wh 4 (setL w 11).length)],
      [.cells cs 2 true own, shB r f 2 0 0 0, E3, .cells (tB (trV' r f c w) 12) 1 true true, iB (setL w 11)], []⟩) := by
  intro q
  induction q with
  | zero =>
    intro i hi
    obtain rfl : i = 11 := by omega
    have s := tB_set (V := trV' r f c w) (i := 11) (by omega)
    have b := trV_bd (w := w) hr hf hc 11
    generalize trV' r f c w = V at *
    have v0 : IntKind.i64.wrap (V 11) = V 11 := wrap_i64_id (by omega) (by omega)
    generalize setL w 11 = T at *
    rw [lpB_eq]
    simp only [iB]
    generalize T.map iv = TT at *
    simp (maxSteps := 1000000) (disch := first | omega | decide | assumption | simp [scal]) [o_convI cv_5_3, za_24, o_build za_24 pl_24, sz_24, za_55, o_indexAddrA ea_55, sz_3, o_indexAddrS es_25, ze_25, o_buildSlice es_25 ze_25 (by decide) ba_25_1, ap_25, builtin_append ni_25, o_indexAddrA ea_49, loadA_eq ia_5, o_fieldAddr fa_24_0 (by decide), loadA_eq ia_3, o_fieldAddr fa_24_1 (by decide), lenA_sl lk_84, o_indexAddrS es_84, loadA_eq ia_85, za_85, sz_85, o_indexAddrA ea_85, o_fieldAddr fa_24_2 (by decide), loadA_eq ia_22, o_indexAddrS es_22, ze_22, o_buildSlice es_22 ze_22 (by decide) ba_22_1, ap_22, builtin_append ni_22, sz_22, lenA_sl lk_22, loadA_eq ia_24, lenA_sl lk_25, loadA_eq ia_55, o_index ix_55, za_57, sz_57, o_fieldAddr fa_57_0 (by decide), o_fieldAddr fa_57_1 (by decide), loadA_eq ia_57, want_some q9_84g2, want_some q9_84g9, want_some q9_108g2, want_some q9_108g5, want_some q9_108g11, s, tB_len, v0]
  | succ q ih =>
    intro i hi
    have e1 : (i : Int) < 12 := by omega
    have e2 : i < 12 := by omega
    have e3 : ¬ (i : Int) = 11 := by omega
    have this := ih (i + 1) (by omega)
    have s := tB_set (V := trV' r f c w) e2
    have gc := bC_get (c := c) e2
    have hlen := setL_len (w := w) (i := i)
    have hci := hc i
    have b := trV_bd (w := w) hr hf hc i
    have s1 := @fdiv_powu w i (by omega)
    have hq : w / 2 ^ i < 2 ^ 16 := by have := Nat.div_le_self w (2 ^ i); omega
    have s2 := fun k => @bin_and1u Try.prog 50 k _ hq
    have hb : bitB w i = decide (w / 2 ^ i % 2 = 1) := rfl
    have hV : trV' r f c w (i + 1) = if bitB w i then trV' r f c w i + 7 * ((c i : Int) - 128) else trV' r f c w i + ((c i : Int) % (r + f + 1) - f) := rfl
    have c1 := fun h b cc rd => app_list (h := h) (b := b) (c := cc) (k := 1) (by' := 8) (l := (setL w i).length) (cs := (setL w i).map iv) (new := [iv i]) (rd := rd) (by simp) (by omega) (by omega) rfl
    rw [setL_succ] at this
    generalize setL w 11 = T9 at *
    generalize setL w i = T at *
    rw [hb] at hV
    clear hb
    generalize w / 2 ^ i = ww at *
    have rfne : r + f + 1 ≠ 0 := by omega
    have tm : ((c i : Int)).tmod (r + f + 1) = (c i : Int) % (r + f + 1) := Int.tmod_eq_emod_of_nonneg (by omega)
    have m1 := Int.emod_nonneg (c i : Int) (show r + f + 1 ≠ 0 by omega)
    have m2 := Int.emod_lt_of_pos (c i : Int) (show 0 < r + f + 1 by omega)
    rw [hV] at this
    generalize hVV : trV' r f c w = V at *
    generalize V i = v at *
    generalize c i = ci at *
    simp only [iB, cast1] at this ⊢
    rw [lpB_eq]
    by_cases w1 : ww % 2 = 1
    · have w1' : ((ww : Int) % 2 = 1) := by omega
      have w1'' := eq_true w1'
      simp only [w1, if_true, decide_true, List.map_append, List.map_cons, List.map_nil, List.length_append, List.length_cons, List.length_nil, Nat.zero_add] at this
      generalize T.map iv = TT at *
      simp (maxSteps := 1000000) (disch := first | omega | decide | assumption | simp [scal]) [o_convI cv_5_3, za_24, o_build za_24 pl_24, sz_24, za_55, o_indexAddrA ea_55, sz_3, o_indexAddrS es_25, ze_25, o_buildSlice es_25 ze_25 (by decide) ba_25_1, ap_25, builtin_append ni_25, o_indexAddrA ea_49, loadA_eq ia_5, o_fieldAddr fa_24_0 (by decide), loadA_eq ia_3, o_fieldAddr fa_24_1 (by decide), lenA_sl lk_84, o_indexAddrS es_84, loadA_eq ia_85, za_85, sz_85, o_indexAddrA ea_85, o_fieldAddr fa_24_2 (by decide), loadA_eq ia_22, o_indexAddrS es_22, ze_22, o_buildSlice es_22 ze_22 (by decide) ba_22_1, ap_22, builtin_append ni_22, sz_22, lenA_sl lk_22, loadA_eq ia_24, lenA_sl lk_25, loadA_eq ia_55, o_index ix_55, za_57, sz_57, o_fieldAddr fa_57_0 (by decide), o_fieldAddr fa_57_1 (by decide), loadA_eq ia_57, want_some q9_84g2, want_some q9_84g9, want_some q9_108g2, want_some q9_108g5, want_some q9_108g11, e1, e2, e3, s, tB_len, gc, s1, s2, w1'', append_some ap_25, srcCells, c1, this]
    · have w1' : ¬ ((ww : Int) % 2 = 1) := by omega
      simp only [w1, if_false, decide_false, Bool.false_eq_true] at this
      generalize T.map iv = TT at *
      generalize (ci : Int) % (r + f + 1) = z at *
      simp (maxSteps := 1000000) (disch := first | omega | decide | assumption | simp [scal]) [o_convI cv_5_3, za_24, o_build za_24 pl_24, sz_24, za_55, o_indexAddrA ea_55, sz_3, o_indexAddrS es_25, ze_25, o_buildSlice es_25 ze_25 (by decide) ba_25_1, ap_25, builtin_append ni_25, o_indexAddrA ea_49, loadA_eq ia_5, o_fieldAddr fa_24_0 (by decide), loadA_eq ia_3, o_fieldAddr fa_24_1 (by decide), lenA_sl lk_84, o_indexAddrS es_84, loadA_eq ia_85, za_85, sz_85, o_indexAddrA ea_85, o_fieldAddr fa_24_2 (by decide), loadA_eq ia_22, o_indexAddrS es_22, ze_22, o_buildSlice es_22 ze_22 (by decide) ba_22_1, ap_22, builtin_append ni_22, sz_22, lenA_sl lk_22, loadA_eq ia_24, lenA_sl lk_25, loadA_eq ia_55, o_index ix_55, za_57, sz_57, o_fieldAddr fa_57_0 (by decide), o_fieldAddr fa_57_1 (by decide), loadA_eq ia_57, want_some q9_84g2, want_some q9_84g9, want_some q9_108g2, want_some q9_108g5, want_some q9_108g11, e1, e2, e3, s, tB_len, gc, s1, s2, w1', rfne, tm, this]
end
end Go.Proofs.Ytiafgimgcbmgaaa.bl
namespace Go.Proofs.Ytiafgimgcbmgaaa.bl
open Go.GE
set_option linter.unusedVariables false
set_option linter.unusedSimpArgs false
set_option maxRecDepth 100000
set_option maxHeartbeats 4000000
attribute [local simp] runOps_nil runOps_cons runOpsF_nil runOpsF_cons fstS_some fstF_some opStep_eq want_none oStep_true oStep_false fin_pure fin_read fin_alloc fin_write storeB wrN cellV addWr o_move o_assign o_pick o_alloc o_box o_load o_store o_nilCheck o_bin o_un o_extract o_callV o_callB o_callI callV_f callV_y callV_fc o_makeFunc partsA Instr.fill builtin_len builtin_max2 bin_add bin_sub bin_mul bin_quo bin_rem bin_lss bin_leq bin_gtr bin_geq bin_eql bin_neq un_neg un_not bin_shr bin_shl wrap_u64_id opd opds optAll putO nbeq nblt constOk isC ops sub cl cr co bodyOf thenS_normal thenS_ret thenS_exit thenS_goto afterN_normal afterN_ret afterN_exit afterN_goto condS_true condS_false blockS_normal blockS_ret blockS_exit blockS_goto headS normS normK_eq fixS_nil fixS_cons fix1 fixV emptyB keepO_nil keepO_cons roundC_normal roundC_exit roundC_ret roundC_goto sweep_eq sweepD rnm pickR pickW rootsB ptrT renT ptrFn renFn ptrB_flat ptrB_non renB_flat renB_non plainS_some drawS_some fpsOk disj unord range' dropTo enumT undef wrap_i64_id Value.cells mkCells ptrTo scal cellsAt rdN endS_ret resultsA Option.bind_some tupV finish reachN dep ptrL_eq ptrL renL_eq renL ptrV_bool ptrV_int ptrV_string ptrV_nilFunc ptrV_nilIface ptrV_nilPtr ptrV_ptr ptrV_nilSl ptrV_sl ptrV_iface ptrV_agg ptrV_tuple ptrV_func renV_bool renV_int renV_string renV_nilFunc renV_nilIface renV_nilPtr renV_ptr renV_nilSl renV_sl renV_iface renV_agg renV_tuple renV_func gotoS_goto gotoS_normal gotoS_exit gotoS_ret skip_seq sliceE bnd bndHi intOf optOpd keepT_nil keepT_cons keepC_t keepC_f lk_nil lk_cons lkC_t lkC_f has_nil has_cons hasC_t hasC_f rep_nil rep_cons repC_t repC_f put_eq putC_t putC_f mem_nil mem_cons memC_t memC_f idx_nil idx_cons idxC_t idxC_f reach_nil reach_cons reachC_t reachC_f
attribute [local simp] n9_1s n9_3s n9_5s n9_7s n9_9s n9_12s n9_16s n9_19s n9_20s n9_18s n9_24s n9_26s n9_29s n9_31s n9_32s n9_30s n9_28s n9_34s n9_37s n9_38s n9_36s n9_39s n9_35s n9_33s n9_27s n9_25s n9_23s n9_22s n9_40s n9_21s n9_17s n9_15s n9_14s n9_14g n9_13s n9_11s n9_42s n9_45s n9_49s n9_52s n9_53s n9_51s n9_57s n9_60s n9_62s n9_63s n9_61s n9_59s n9_65s n9_67s n9_69s n9_70s n9_68s n9_66s n9_64s n9_58s n9_56s n9_55s n9_71s n9_54s n9_50s n9_48s n9_47s n9_47g n9_46s n9_44s n9_74s n9_77s n9_78s n9_76s n9_79s n9_75s n9_73s n9_81s n9_84s n9_87s n9_88s n9_86s n9_89s n9_85s n9_83s n9_92s n9_96s n9_99s n9_100s n9_98s n9_104s n9_106s n9_108s n9_111s n9_112s n9_110s n9_113s n9_109s n9_107s n9_105s n9_103s n9_102s n9_114s n9_101s n9_97s n9_95s n9_94s n9_94g n9_93s n9_91s n9_116s n9_117s n9_115s n9_90s n9_82s n9_80s n9_72s n9_43s n9_41s n9_10s n9_8s n9_6s n9_4s n9_2s n9_0s Try.f9
/-- cells of readings -/
def RdC (cs : List Value) (off n : Nat) (g : Nat → Nat × Nat) : Prop := ∀ i, i < n → (cs[off + i * 2]? = some (uv (g i).1) ∧ cs[off + i * 2 + 1]? = some (uv (g i).2)) ∧ (g i).1 < 256 ∧ (g i).2 < 256
def truA (V : Nat → Int) (q : Nat × Nat) (h : Nat) : Ab := ⟨(h : Int), V h - ((q.2 / 16 % (q.2 % 9 + 1) : Nat) : Int), V h - ((q.2 / 16 % (q.2 % 9 + 1) : Nat) : Int) + ((q.2 % 9 : Nat) : Int)⟩
def truL (g : Nat → Nat × Nat) (V : Nat → Int) : Nat → Nat → Nat → List Ab
  | 0, _, _ => []
  | k + 1, i, h => if h ≤ 11 then truA V (g i) h :: truL g V k (i + 1) (h + (1 + (g i).1 % 3)) else []
theorem td16 {z : Nat} : ((z : Int).tdiv 16) = ((z / 16 : Nat) : Int) := by rw [Int.tdiv_eq_ediv_of_nonneg (by omega)]; omega
theorem tmn {a b : Nat} : ((a : Int).tmod (b : Int)) = ((a % b : Nat) : Int) := by rw [Int.tmod_eq_emod_of_nonneg (by omega)]; omega
section
variable (r f : Int) (off n cp : Nat) {cs : List Value} {own : Bool} {g : Nat → Nat × Nat} (V : Nat → Int) (T : List Int)
theorem l9_2 (hV : ∀ i : Nat, i ≤ 11 → -100000 ≤ V i ∧ V i ≤ 100000) (hc : RdC cs off n g) : ∀ (q i h : Nat) (A : List Ab), i + q = n → h < 100 → A.length = i → i ≤ h →
    lpB Try.prog LL ⟨9, 175, 1, none⟩ n9_47 n9_48 ⟨[(11, pp 1), (12, pp 3), (14, wh 4 T.length), (16, iv h), (76, .slice (some ⟨0, off, none⟩) n cp), (77, iv n), (78, iv i)],
      [.cells cs 2 true own, shB r f 2 0 i i, .cells (A.flatMap abG) 3 true true, .cells (tB V 12) 1 true true, iB T], []⟩ =
      some (.exit 2, ⟨[(11, pp 1), (12, pp 3), (14, wh 4 T.length)],
      [.cells cs 2 true own, shB r f 2 0 (A ++ truL g V q i h).length (A ++ truL g V q i h).length, .cells ((A ++ truL g V q i h).flatMap abG) 3 true true, .cells (tB V 12) 1 true true, iB T], []⟩) := by
  intro q
  induction q with
  | zero =>
    intro i h A hi hh hA hih
    obtain rfl : i = n := by omega
    simp only [truL, List.append_nil, hA]
    generalize A.flatMap abG = M
    rw [lpB_eq]
    simp only [iB]
    simp (maxSteps := 1000000) (disch := first | omega | decide | assumption | simp [scal]) [o_convI cv_5_3, za_24, o_build za_24 pl_24, sz_24, za_55, o_indexAddrA ea_55, sz_3, o_indexAddrS es_25, ze_25, o_buildSlice es_25 ze_25 (by decide) ba_25_1, ap_25, builtin_append ni_25, o_indexAddrA ea_49, loadA_eq ia_5, o_fieldAddr fa_24_0 (by decide), loadA_eq ia_3, o_fieldAddr fa_24_1 (by decide), lenA_sl lk_84, o_indexAddrS es_84, loadA_eq ia_85, za_85, sz_85, o_indexAddrA ea_85, o_fieldAddr fa_24_2 (by decide), loadA_eq ia_22, o_indexAddrS es_22, ze_22, o_buildSlice es_22 ze_22 (by decide) ba_22_1, ap_22, builtin_append ni_22, sz_22, lenA_sl lk_22, loadA_eq ia_24, lenA_sl lk_25, loadA_eq ia_55, o_index ix_55, za_57, sz_57, o_fieldAddr fa_57_0 (by decide), o_fieldAddr fa_57_1 (by decide), loadA_eq ia_57, want_some q9_84g2, want_some q9_84g9, want_some q9_108g2, want_some q9_108g5, want_some q9_108g11]
  | succ q ih =>
    intro i h A hi hh hA hih
    have e1 : i < n := by omega
    have e2 : (i : Int) < n := by omega
    obtain ⟨⟨q2, q3⟩, g1, g2⟩ := hc i e1
    simp only [truL]
    by_cases h11 : h ≤ 11
    · have e3 : ¬ (11 : Int) < h := by omega
      have e4 : (h : Int) < 12 := by omega
      rw [if_pos h11]
      have gt := tB_get (V := V) (i := 12) (k := h) (by omega) (by omega)
      have hv := hV h h11
      have this := ih (i + 1) (h + (1 + (g i).1 % 3)) (A ++ [truA V (g i) h]) (by omega) (by omega) (by simp [hA]) (by omega)
      have c1 := fun hp b c rd => app_list (h := hp) (b := b) (c := c) (k := 3) (by' := 24) (l := i) (cs := A.flatMap abG) (new := abG (truA V (g i) h)) (rd := rd) (by rw [← hA]; exact flat_len (k := 3) (fun _ => rfl)) (by omega) (by omega) rfl
      rw [List.append_assoc, List.singleton_append] at this
      generalize A ++ truA V (g i) h :: truL g V q (i + 1) (h + (1 + (g i).1 % 3)) = F at *
      simp only [List.flatMap_append, List.flatMap_cons, List.flatMap_nil, List.append_nil] at this ⊢
      rw [show abG (truA V (g i) h) = [iv h, iv (V h - (((g i).2 / 16 % ((g i).2 % 9 + 1) : Nat) : Int)), iv (V h - (((g i).2 / 16 % ((g i).2 % 9 + 1) : Nat) : Int) + (((g i).2 % 9 : Nat) : Int))] from rfl] at this c1
      generalize V h = v at *
      generalize g i = y at *
      obtain ⟨y0, y1⟩ := y
      simp only [] at c1 q2 q3 g1 g2 this
      have x1 : ((y1 : Int)).tmod 9 = ((y1 % 9 : Nat) : Int) := tmn (b := 9)
      have x2 : (((y1 / 16 : Nat) : Int)).tmod (((y1 % 9 : Nat) : Int) + 1) = ((y1 / 16 % (y1 % 9 + 1) : Nat) : Int) := tmn (b := y1 % 9 + 1)
      have x3 : ((y0 : Int)).tmod 3 = ((y0 % 3 : Nat) : Int) := tmn (b := 3)
      have x4 : (((y1 % 9 : Nat) : Int) + 1) ≠ 0 := by omega
      have x5 : y1 / 16 % (y1 % 9 + 1) < y1 % 9 + 1 := Nat.mod_lt _ (by omega)
      have x6 : y1 % 9 < 9 := Nat.mod_lt _ (by decide)
      have x7 : y0 % 3 < 3 := Nat.mod_lt _ (by decide)
      have x8 : y1 / 16 < 16 := by omega
      have x0 := @td16 y1
      generalize y1 / 16 % (y1 % 9 + 1) = d at *
      generalize y1 / 16 = yy at *
      generalize y1 % 9 = wd at *
      generalize y0 % 3 = st at *
      rw [show ((h + (1 + st) : Nat) : Int) = (h : Int) + (1 + st) by omega] at this
      simp only [iB, cast1] at this ⊢
      rw [lpB_eq]
      simp (maxSteps := 1000000) (disch := first | omega | decide | assumption | simp [scal]) [o_convI cv_5_3, za_24, o_build za_24 pl_24, sz_24, za_55, o_indexAddrA ea_55, sz_3, o_indexAddrS es_25, ze_25, o_buildSlice es_25 ze_25 (by decide) ba_25_1, ap_25, builtin_append ni_25, o_indexAddrA ea_49, loadA_eq ia_5, o_fieldAddr fa_24_0 (by decide), loadA_eq ia_3, o_fieldAddr fa_24_1 (by decide), lenA_sl lk_84, o_indexAddrS es_84, loadA_eq ia_85, za_85, sz_85, o_indexAddrA ea_85, o_fieldAddr fa_24_2 (by decide), loadA_eq ia_22, o_indexAddrS es_22, ze_22, o_buildSlice es_22 ze_22 (by decide) ba_22_1, ap_22, builtin_append ni_22, sz_22, lenA_sl lk_22, loadA_eq ia_24, lenA_sl lk_25, loadA_eq ia_55, o_index ix_55, za_57, sz_57, o_fieldAddr fa_57_0 (by decide), o_fieldAddr fa_57_1 (by decide), loadA_eq ia_57, want_some q9_84g2, want_some q9_84g9, want_some q9_108g2, want_some q9_108g5, want_some q9_108g11, e1, e2, e3, e4, q2, q3, gt, x0, x1, x2, x3, x4, k43, append_some ap_22, srcCells, c1, this]
    · have e3 : (11 : Int) < h := by omega
      rw [if_neg h11, List.append_nil, hA]
      generalize A.flatMap abG = M
      rw [lpB_eq]
      simp only [iB]
      simp (maxSteps := 1000000) (disch := first | omega | decide | assumption | simp [scal]) [o_convI cv_5_3, za_24, o_build za_24 pl_24, sz_24, za_55, o_indexAddrA ea_55, sz_3, o_indexAddrS es_25, ze_25, o_buildSlice es_25 ze_25 (by decide) ba_25_1, ap_25, builtin_append ni_25, o_indexAddrA ea_49, loadA_eq ia_5, o_fieldAddr fa_24_0 (by decide), loadA_eq ia_3, o_fieldAddr fa_24_1 (by decide), lenA_sl lk_84, o_indexAddrS es_84, loadA_eq ia_85, za_85, sz_85, o_indexAddrA ea_85, o_fieldAddr fa_24_2 (by decide), loadA_eq ia_22, o_indexAddrS es_22, ze_22, o_buildSlice es_22 ze_22 (by decide) ba_22_1, ap_22, builtin_append ni_22, sz_22, lenA_sl lk_22, loadA_eq ia_24, lenA_sl lk_25, loadA_eq ia_55, o_index ix_55, za_57, sz_57, o_fieldAddr fa_57_0 (by decide), o_fieldAddr fa_57_1 (by decide), loadA_eq ia_57, want_some q9_84g2, want_some q9_84g9, want_some q9_108g2, want_some q9_108g5, want_some q9_108g11, e1, e2, e3, q2, q3]
end
end Go.Proofs.Ytiafgimgcbmgaaa.bl
namespace Go.Proofs.Ytiafgimgcbmgaaa.bl
open Go.GE
set_option linter.unusedVariables false
set_option linter.unusedSimpArgs false
set_option linter.unusedSectionVars false
set_option maxRecDepth 100000
set_option maxHeartbeats 4000000
theorem set_ascG {w i : Nat} : Asc (setL w i).length (inAt (setL w i)) := by
  refine asc_pw ?_
  unfold setL
  rw [List.pairwise_map]
  refine List.Pairwise.filter _ ?_
  refine List.pairwise_iff_getElem.2 fun a b h1 h2 hab => ?_
  simp
  omega
theorem set_bdG {w i j : Nat} (h : j < (setL w i).length) : 0 ≤ inAt (setL w i) j ∧ inAt (setL w i) j < i := by
  obtain ⟨k, h1, _, h3⟩ := set_mem.1 (in_mem h)
  omega
/-- along a part the true values change within bounds -/
theorem tru_bd {r f : Int} {c : Nat → Nat} {w : Nat} (hr : 0 ≤ r) (hf : 0 ≤ f) {x : Nat} : ∀ k : Nat, x + k ≤ 11 → partS (setL w 11).length (inAt (setL w 11)) (x : Int) = partS (setL w 11).length (inAt (setL w 11)) ((x + k : Nat) : Int) →
    trV' r f c w (x + k) ≤ trV' r f c w x + k * r ∧ trV' r f c w x - k * f ≤ trV' r f c w (x + k) := by
  intro k
  induction k with
  | zero => intro _ _; simp
  | succ k ih =>
    intro hk hp
    have hpe := (part_eq (set_ascG (w := w) (i := 11)) (x := (x : Int)) (y := ((x + (k + 1) : Nat) : Int)) (by omega)).1 hp
    have h1 := ih (by omega) ((part_eq set_ascG (by omega)).2 fun j hj h2 => hpe j hj (by omega))
    have hb : bitB w (x + k) = false := by
      rw [← Bool.not_eq_true]
      intro hb
      obtain ⟨j, hj, ej⟩ := mem_in (x := setL w 11) (v := ((x + k : Nat) : Int)) (set_mem.2 ⟨x + k, by omega, by unfold bitB at hb; simpa using hb, rfl⟩)
      have := hpe j hj (by omega)
      omega
    have e : trV' r f c w (x + (k + 1)) = trV' r f c w (x + k) + ((c (x + k) : Int) % (r + f + 1) - f) := by
      rw [← Nat.add_assoc]
      simp only [trV', hb, Bool.false_eq_true, if_false]
    have m1 := Int.emod_nonneg (c (x + k) : Int) (show r + f + 1 ≠ 0 by omega)
    have m2 := Int.emod_lt_of_pos (c (x + k) : Int) (show 0 < r + f + 1 by omega)
    rw [e, cast1, Int.add_mul, Int.add_mul, Int.one_mul, Int.one_mul]
    omega
/-- absolutes that hold the true values -/
structure Tru (V : Nat → Int) (a : Ab) : Prop where
  h0 : 0 ≤ a.h
  h1 : a.h ≤ 11
  lo : a.lo ≤ V a.h.toNat
  hi : V a.h.toNat ≤ a.hi
  w : a.hi ≤ a.lo + 8
theorem tru_ok {g : Nat → Nat × Nat} {V : Nat → Int} : ∀ k i h : Nat, (∀ a ∈ truL g V k i h, Tru V a ∧ (h : Int) ≤ a.h) ∧ ((truL g V k i h).Pairwise fun x y => x.h < y.h) ∧ (truL g V k i h).length ≤ 12 - h := by
  intro k
  induction k with
  | zero => intro i h; simp [truL]
  | succ k ih =>
    intro i h
    unfold truL
    split
    · rename_i h11
      obtain ⟨a1, a2, a3⟩ := ih (i + 1) (h + (1 + (g i).1 % 3))
      have d := Nat.mod_lt ((g i).2 / 16) (show 0 < (g i).2 % 9 + 1 by omega)
      have d9 := Nat.mod_lt (g i).2 (show 0 < 9 by omega)
      refine ⟨?_, ?_, ?_⟩
      · intro a ha
        rcases List.mem_cons.1 ha with rfl | ha
        · have e : ((truA V (g i) h).h).toNat = h := by simp [truA]
          refine ⟨⟨by simp [truA], by simp only [truA]; omega, by rw [e]; simp only [truA]; omega, by rw [e]; simp only [truA]; omega, by simp only [truA]; omega⟩, by simp [truA]⟩
        · have := a1 a ha
          exact ⟨this.1, by omega⟩
      · refine List.pairwise_cons.2 ⟨fun a ha => ?_, a2⟩
        have := (a1 a ha).2
        simp only [truA]
        omega
      · simp only [List.length_cons]
        omega
    · simp
section
variable {r f : Int} {c : Nat → Nat} {w : Nat} {A : List Ab} (hr : 0 ≤ r ∧ r < 20) (hf : 0 ≤ f ∧ f < 20) (hc : ∀ i, c i < 256) (ht : ∀ a ∈ A, Tru (trV' r f c w) a) (hp : A.Pairwise fun x y => x.h < y.h) (hl : A.length ≤ 12) (h1 : 1 ≤ A.length)
include hr hf hc ht hp hl h1
theorem tru_sht : Sht r f A.length (abAt A) := by
  refine sht_of ⟨by omega, by omega, by omega, by omega⟩ h1 (by omega) (fun a ha => ?_) hp
  have t := ht a ha
  obtain ⟨t0, t1, t2, t3, t4⟩ := t
  have b := trV_bd (w := w) hr hf hc a.h.toNat
  exact ⟨t0, by omega, by omega, by omega, by omega⟩
theorem tru_ptd : ptdE r f A.length (abAt A) (setL w 11).length (inAt (setL w 11)) = 0 :=
  ptd_of (tru_sht hr hf hc ht hp hl h1) set_ascG (by have := setL_len (w := w) (i := 11); omega) fun j hj => by have := set_bdG hj; omega
/-- what an absolute allows at an hour of its part -/
theorem tru_in {a : Ab} (ha : a ∈ A) {x : Nat} (hx : x ≤ 11) (hs : partS (setL w 11).length (inAt (setL w 11)) a.h = partS (setL w 11).length (inAt (setL w 11)) (x : Int)) :
    arLo r f a x ≤ trV' r f c w x ∧ trV' r f c w x ≤ arHi r f a x := by
  obtain ⟨t0, t1, t2, t3, t4⟩ := ht a ha
  obtain ⟨y, hy⟩ : ∃ y : Nat, a.h = y := ⟨a.h.toNat, by omega⟩
  rw [hy] at hs
  rw [hy, Int.toNat_natCast] at t2 t3
  unfold arLo arHi
  rw [hy]
  by_cases hxy : y ≤ x
  · rw [if_pos (by omega), if_pos (by omega)]
    have hb := tru_bd (c := c) (w := w) hr.1 hf.1 (x := y) (x - y) (by omega) (by rw [show y + (x - y) = x by omega]; exact hs)
    rw [show y + (x - y) = x by omega, show ((x - y : Nat) : Int) = (x : Int) - y by omega] at hb
    omega
  · rw [if_neg (by omega), if_neg (by omega)]
    have hb := tru_bd (c := c) (w := w) hr.1 hf.1 (x := x) (y - x) (by omega) (by rw [show x + (y - x) = y by omega]; exact hs.symm)
    rw [show x + (y - x) = y by omega, show ((y - x : Nat) : Int) = (y : Int) - x by omega] at hb
    omega
theorem tru_clash : clashS r f A.length (abAt A) (setL w 11).length (inAt (setL w 11)) (-1) = false := by
  have S := tru_sht hr hf hc ht hp hl h1
  rw [← Bool.not_eq_true, clash_iff]
  rintro ⟨i, k, g1, g2, _, _, g5, g6⟩
  have hlt := S.asc i k g1 g2
  have ti := ht _ (mem_at (show i < A.length by omega))
  have tk := ht _ (mem_at g2)
  obtain ⟨y, hy⟩ : ∃ y : Nat, (abAt A k).h = y := ⟨(abAt A k).h.toNat, by have := tk.h0; omega⟩
  have b := tru_in hr hf hc ht hp hl h1 (mem_at (show i < A.length by omega)) (x := y) (by have := tk.h1; omega) (by rw [← hy]; exact g5)
  have k1 := tk.lo
  have k2 := tk.hi
  rw [hy, Int.toNat_natCast] at k1 k2
  unfold needS at g6
  rw [hy] at g6
  simp only [Bool.or_eq_true, decide_eq_true_eq] at g6
  omega
theorem tru_val {x : Nat} (hx : x ≤ 11) : valE r f A.length (abAt A) (setL w 11).length (inAt (setL w 11)) x = 14 ∨
    (valE r f A.length (abAt A) (setL w 11).length (inAt (setL w 11)) x = 0 ∧ (valP r f A.length (abAt A) (setL w 11).length (inAt (setL w 11)) x).1 ≤ trV' r f c w x ∧ trV' r f c w x ≤ (valP r f A.length (abAt A) (setL w 11).length (inAt (setL w 11)) x).2) := by
  have he : expE r f A.length (abAt A) (setL w 11).length (inAt (setL w 11)) = 0 := by
    rw [exp_of (tru_ptd hr hf hc ht hp hl h1), tru_clash hr hf hc ht hp hl h1]; simp
  have hv : valE r f A.length (abAt A) (setL w 11).length (inAt (setL w 11)) x = if (valS r f A.length (abAt A) (setL w 11).length (inAt (setL w 11)) x).2.2 = false then 14 else 0 := by
    unfold valE; rw [he]; simp [show (x : Int) ≤ 10000 by omega]
  rcases Bool.eq_false_or_eq_true (valS r f A.length (abAt A) (setL w 11).length (inAt (setL w 11)) x).2.2 with hk | hk
  · right
    rw [hk, if_neg (by simp)] at hv
    refine ⟨hv, ?_⟩
    unfold valP
    rw [if_pos hv]
    obtain ⟨_, _, _, h4, h5⟩ := valL_spec (r := r) (f := f) (l := abAt A) (m := (setL w 11).length) (st := inAt (setL w 11)) (x := (x : Int)) (pt := partS (setL w 11).length (inAt (setL w 11)) x) A.length 0 (0, 0, false)
    unfold valS at hk ⊢
    constructor
    · rcases h4 with ⟨h, _⟩ | ⟨j, _, hj, hpj, e⟩ | h
      · simp at h
      · rw [e]; exact (tru_in hr hf hc ht hp hl h1 (mem_at (show j < A.length by omega)) hx hpj).1
      · rw [hk] at h; simp at h
    · rcases h5 with ⟨h, _⟩ | ⟨j, _, hj, hpj, e⟩ | h
      · simp at h
      · rw [e]; exact (tru_in hr hf hc ht hp hl h1 (mem_at (show j < A.length by omega)) hx hpj).2
      · rw [hk] at h; simp at h
  · left
    rw [hk, if_pos rfl] at hv
    exact hv
end
end Go.Proofs.Ytiafgimgcbmgaaa.bl
namespace Go.Proofs.Ytiafgimgcbmgaaa.bl
open Go.GE
set_option linter.unusedVariables false
set_option linter.unusedSimpArgs false
set_option maxRecDepth 100000
set_option maxHeartbeats 4000000
attribute [local simp] runOps_nil runOps_cons runOpsF_nil runOpsF_cons fstS_some fstF_some opStep_eq want_none oStep_true oStep_false fin_pure fin_read fin_alloc fin_write storeB wrN cellV addWr o_move o_assign o_pick o_alloc o_box o_load o_store o_nilCheck o_bin o_un o_extract o_callV o_callB o_callI callV_f callV_y callV_fc o_makeFunc partsA Instr.fill builtin_len builtin_max2 bin_add bin_sub bin_mul bin_quo bin_rem bin_lss bin_leq bin_gtr bin_geq bin_eql bin_neq un_neg un_not bin_shr bin_shl wrap_u64_id opd opds optAll putO nbeq nblt constOk isC ops sub cl cr co bodyOf thenS_normal thenS_ret thenS_exit thenS_goto afterN_normal afterN_ret afterN_exit afterN_goto condS_true condS_false blockS_normal blockS_ret blockS_exit blockS_goto headS normS normK_eq fixS_nil fixS_cons fix1 fixV emptyB keepO_nil keepO_cons roundC_normal roundC_exit roundC_ret roundC_goto sweep_eq sweepD rnm pickR pickW rootsB ptrT renT ptrFn renFn ptrB_flat ptrB_non renB_flat renB_non plainS_some drawS_some fpsOk disj unord range' dropTo enumT undef wrap_i64_id Value.cells mkCells ptrTo scal cellsAt rdN endS_ret resultsA Option.bind_some tupV finish reachN dep ptrL_eq ptrL renL_eq renL ptrV_bool ptrV_int ptrV_string ptrV_nilFunc ptrV_nilIface ptrV_nilPtr ptrV_ptr ptrV_nilSl ptrV_sl ptrV_iface ptrV_agg ptrV_tuple ptrV_func renV_bool renV_int renV_string renV_nilFunc renV_nilIface renV_nilPtr renV_ptr renV_nilSl renV_sl renV_iface renV_agg renV_tuple renV_func gotoS_goto gotoS_normal gotoS_exit gotoS_ret skip_seq sliceE bnd bndHi intOf optOpd keepT_nil keepT_cons keepC_t keepC_f lk_nil lk_cons lkC_t lkC_f has_nil has_cons hasC_t hasC_f rep_nil rep_cons repC_t repC_f put_eq putC_t putC_f mem_nil mem_cons memC_t memC_f idx_nil idx_cons idxC_t idxC_f reach_nil reach_cons reachC_t reachC_f
attribute [local simp] n9_1s n9_3s n9_5s n9_7s n9_9s n9_12s n9_16s n9_19s n9_20s n9_18s n9_24s n9_26s n9_29s n9_31s n9_32s n9_30s n9_28s n9_34s n9_37s n9_38s n9_36s n9_39s n9_35s n9_33s n9_27s n9_25s n9_23s n9_22s n9_40s n9_21s n9_17s n9_15s n9_14s n9_14g n9_13s n9_11s n9_42s n9_45s n9_49s n9_52s n9_53s n9_51s n9_57s n9_60s n9_62s n9_63s n9_61s n9_59s n9_65s n9_67s n9_69s n9_70s n9_68s n9_66s n9_64s n9_58s n9_56s n9_55s n9_71s n9_54s n9_50s n9_48s n9_47s n9_47g n9_46s n9_44s n9_74s n9_77s n9_78s n9_76s n9_79s n9_75s n9_73s n9_81s n9_84s n9_87s n9_88s n9_86s n9_89s n9_85s n9_83s n9_92s n9_96s n9_99s n9_100s n9_98s n9_104s n9_106s n9_108s n9_111s n9_112s n9_110s n9_113s n9_109s n9_107s n9_105s n9_103s n9_102s n9_114s n9_101s n9_97s n9_95s n9_94s n9_94g n9_93s n9_91s n9_116s n9_117s n9_115s n9_90s n9_82s n9_80s n9_72s n9_43s n9_41s n9_10s n9_8s n9_6s n9_4s n9_2s n9_0s Try.f9
section
variable (r f : Int) {cs : List Value} {own : Bool} {A : List Ab} {T : List Int} (V : Nat → Int)
theorem l9_4 (hv : ∀ x : Nat, x ≤ 11 → valE r f A.length (abAt A) T.length (inAt T) x = 14 ∨ (valE r f A.length (abAt A) T.length (inAt T) x = 0 ∧ (valP r f A.length (abAt A) T.length (inAt T) x).1 ≤ V x ∧ V x ≤ (valP r f A.length (abAt A) T.length (inAt T) x).2)) : ∀ q x : Nat, x + q = 12 →
    lpB Try.prog LL ⟨9, 175, 1, none⟩ n9_94 n9_95 ⟨[(11, pp 1), (14, wh 3 T.length), (143, .agg (tB V 12).toArray), (144, iv x)],
      [.cells cs 2 true own, shB r f 2 0 A.length A.length, .cells (A.flatMap abG) 3 true true, iB T], []⟩ =
      some (.exit 4, ⟨[], [.cells cs 2 true own], []⟩) := by
  intro q
  induction q with
  | zero =>
    intro x hx
    obtain rfl : x = 12 := by omega
    generalize A.flatMap abG = M
    rw [lpB_eq]
    simp only [iB]
    simp (maxSteps := 1000000) (disch := first | omega | decide | assumption | simp [scal]) [o_convI cv_5_3, za_24, o_build za_24 pl_24, sz_24, za_55, o_indexAddrA ea_55, sz_3, o_indexAddrS es_25, ze_25, o_buildSlice es_25 ze_25 (by decide) ba_25_1, ap_25, builtin_append ni_25, o_indexAddrA ea_49, loadA_eq ia_5, o_fieldAddr fa_24_0 (by decide), loadA_eq ia_3, o_fieldAddr fa_24_1 (by decide), lenA_sl lk_84, o_indexAddrS es_84, loadA_eq ia_85, za_85, sz_85, o_indexAddrA ea_85, o_fieldAddr fa_24_2 (by decide), loadA_eq ia_22, o_indexAddrS es_22, ze_22, o_buildSlice es_22 ze_22 (by decide) ba_22_1, ap_22, builtin_append ni_22, sz_22, lenA_sl lk_22, loadA_eq ia_24, lenA_sl lk_25, loadA_eq ia_55, o_index ix_55, za_57, sz_57, o_fieldAddr fa_57_0 (by decide), o_fieldAddr fa_57_1 (by decide), loadA_eq ia_57, want_some q9_84g2, want_some q9_84g9, want_some q9_108g2, want_some q9_108g5, want_some q9_108g11]
  | succ q ih =>
    intro x hx
    have e1 : (x : Int) < 12 := by omega
    have e2 : x < 12 := by omega
    have this := ih (x + 1) (by omega)
    have gt := tB_get (V := V) (i := 12) (k := x) e2 e2
    have a1 := fun b0 b1 bx => k29 r f 2 0 A.length A.length 3 0 T.length T.length (x : Int) (h := b0 :: b1 :: .cells (A.flatMap abG) 3 true true :: iB T :: bx) rfl rfl (by decide) (abAt_C A) (inAt_C T)
    have hv := hv x (by omega)
    generalize valE r f A.length (abAt A) T.length (inAt T) (x : Int) = E at *
    generalize valP r f A.length (abAt A) T.length (inAt T) (x : Int) = P at *
    obtain ⟨lo, up⟩ := P
    simp only [iB, cast1] at *
    generalize V x = v at *
    generalize A.flatMap abG = M at *
    generalize T.map iv = TT at *
    rw [lpB_eq]
    rcases hv with rfl | ⟨rfl, h1, h2⟩
    · simp (maxSteps := 1000000) (disch := first | omega | decide | assumption | simp [scal]) [o_convI cv_5_3, za_24, o_build za_24 pl_24, sz_24, za_55, o_indexAddrA ea_55, sz_3, o_indexAddrS es_25, ze_25, o_buildSlice es_25 ze_25 (by decide) ba_25_1, ap_25, builtin_append ni_25, o_indexAddrA ea_49, loadA_eq ia_5, o_fieldAddr fa_24_0 (by decide), loadA_eq ia_3, o_fieldAddr fa_24_1 (by decide), lenA_sl lk_84, o_indexAddrS es_84, loadA_eq ia_85, za_85, sz_85, o_indexAddrA ea_85, o_fieldAddr fa_24_2 (by decide), loadA_eq ia_22, o_indexAddrS es_22, ze_22, o_buildSlice es_22 ze_22 (by decide) ba_22_1, ap_22, builtin_append ni_22, sz_22, lenA_sl lk_22, loadA_eq ia_24, lenA_sl lk_25, loadA_eq ia_55, o_index ix_55, za_57, sz_57, o_fieldAddr fa_57_0 (by decide), o_fieldAddr fa_57_1 (by decide), loadA_eq ia_57, want_some q9_84g2, want_some q9_84g9, want_some q9_108g2, want_some q9_108g5, want_some q9_108g11, e1, e2, gt, a1, tB_ptr, tB_ren, this]
    · have h1 : ¬ v < lo := by omega
      have h2 : ¬ up < v := by omega
      simp (maxSteps := 1000000) (disch := first | omega | decide | assumption | simp [scal]) [o_convI cv_5_3, za_24, o_build za_24 pl_24, sz_24, za_55, o_indexAddrA ea_55, sz_3, o_indexAddrS es_25, ze_25, o_buildSlice es_25 ze_25 (by decide) ba_25_1, ap_25, builtin_append ni_25, o_indexAddrA ea_49, loadA_eq ia_5, o_fieldAddr fa_24_0 (by decide), loadA_eq ia_3, o_fieldAddr fa_24_1 (by decide), lenA_sl lk_84, o_indexAddrS es_84, loadA_eq ia_85, za_85, sz_85, o_indexAddrA ea_85, o_fieldAddr fa_24_2 (by decide), loadA_eq ia_22, o_indexAddrS es_22, ze_22, o_buildSlice es_22 ze_22 (by decide) ba_22_1, ap_22, builtin_append ni_22, sz_22, lenA_sl lk_22, loadA_eq ia_24, lenA_sl lk_25, loadA_eq ia_55, o_index ix_55, za_57, sz_57, o_fieldAddr fa_57_0 (by decide), o_fieldAddr fa_57_1 (by decide), loadA_eq ia_57, want_some q9_84g2, want_some q9_84g9, want_some q9_108g2, want_some q9_108g5, want_some q9_108g11, e1, e2, gt, a1, tB_ptr, tB_ren, h1, h2, this]
end
section
variable (a b off n cp w : Nat) {cs : List Value} {own : Bool} {g : Nat → Nat × Nat} (c : Nat → Nat)
theorem c9 (ha : a < 256) (hb : b < 256) (hw : w < 65536) (hcc : ∀ i, c i < 256) (hc : RdC cs off n g) :
    LL.run 9 [uv a, uv b, .agg (bC c).toArray, tv w, .slice (some ⟨0, off, none⟩) n cp] [.cells cs 2 true own] = some ⟨.bool true, [], []⟩ := by
  refine go (by decide) ?_
  rw [run9 _ _ _ (by simp)]
  have er : (a : Int).tmod 20 = ((a % 20 : Nat) : Int) := tmn (b := 20)
  have ef : (b : Int).tmod 20 = ((b % 20 : Nat) : Int) := tmn (b := 20)
  have r1 : a % 20 < 20 := Nat.mod_lt _ (by decide)
  have f1 : b % 20 < 20 := Nat.mod_lt _ (by decide)
  generalize hr : ((a % 20 : Nat) : Int) = r at *
  generalize hf : ((b % 20 : Nat) : Int) = f at *
  have rB : 0 ≤ r ∧ r < 20 := by omega
  have fB : 0 ≤ f ∧ f < 20 := by omega
  have vb := trV_bd (w := w) rB fB hcc
  have L0 := l9_0 r f off n cp w (cs := cs) (own := own) c rB fB hcc hw 11 0 (by omega)
  have L2 := l9_2 r f off n cp (cs := cs) (own := own) (g := g) (trV' r f c w) (setL w 11) (fun i hi => by have := vb i; omega) hc n 0 0 [] (by omega) (by omega) rfl (by omega)
  obtain ⟨t1, t2, t3⟩ := tru_ok (g := g) (V := trV' r f c w) n 0 0
  have z0 : trV' r f c w 0 = 500 := rfl
  have s0 : setL w 0 = [] := rfl
  rw [z0, s0, tB_zero] at L0
  rw [List.nil_append] at L2
  generalize truL g (trV' r f c w) n 0 0 = A at *
  have hT := setL_len (w := w) (i := 11)
  have ht : ∀ a ∈ A, Tru (trV' r f c w) a := fun a h => (t1 a h).1
  by_cases hA : A.length = 0
  · obtain rfl : A = [] := List.length_eq_zero_iff.1 hA
    generalize setL w 11 = T at *
    generalize trV' r f c w = V at *
    simp only [iB, List.map_nil, List.flatMap_nil, List.length_nil, Int.natCast_zero] at *
    simp (maxSteps := 1000000) (disch := first | omega | decide | assumption | simp [scal]) [o_convI cv_5_3, za_24, o_build za_24 pl_24, sz_24, sz_3, o_indexAddrS es_25, ze_25, o_buildSlice es_25 ze_25 (by decide) ba_25_1, ap_25, builtin_append ni_25, o_indexAddrA ea_49, loadA_eq ia_5, o_fieldAddr fa_24_0 (by decide), loadA_eq ia_3, o_fieldAddr fa_24_1 (by decide), lenA_sl lk_84, o_indexAddrS es_84, loadA_eq ia_85, za_85, sz_85, o_indexAddrA ea_85, o_fieldAddr fa_24_2 (by decide), loadA_eq ia_22, o_indexAddrS es_22, ze_22, o_buildSlice es_22 ze_22 (by decide) ba_22_1, ap_22, builtin_append ni_22, sz_22, lenA_sl lk_22, loadA_eq ia_24, lenA_sl lk_25, za_57, sz_57, o_fieldAddr fa_57_0 (by decide), o_fieldAddr fa_57_1 (by decide), loadA_eq ia_57, want_some q9_84g2, want_some q9_84g9, want_some q9_108g2, want_some q9_108g5, want_some q9_108g11, k15, za_55, ld55, o_indexAddrA ea_55, bC_arr, bC_len, bC_all, tB_len, er, ef, L0, L2]
  · have h1 : 1 ≤ A.length := by omega
    have S := tru_sht rB fB hcc ht t2 (by omega) h1
    have hp := tru_ptd rB fB hcc ht t2 (by omega) h1
    have hcl := tru_clash rB fB hcc ht t2 (by omega) h1
    have hv := fun x hx => tru_val (x := x) rB fB hcc ht t2 (by omega) h1 hx
    have L4 := l9_4 r f (cs := cs) (own := own) (A := A) (T := setL w 11) (trV' r f c w) hv 12 0 (by omega)
    have he := exp_of hp
    rw [hcl, if_neg (by simp)] at he
    have fm := few_min S set_ascG hcl
    have fr := fewR_of S
    have a1 := fun b0 b1 bx => k17 r f 2 0 A.length A.length (l := abAt A) (h := b0 :: b1 :: .cells (A.flatMap abG) 3 true true :: bx) (own := true) rfl (abAt_C A) (Nat.le_refl _)
    have a2 := fun b0 b1 b3 bx => k20 r f 2 0 A.length A.length 4 0 (setL w 11).length (setL w 11).length (h := b0 :: b1 :: .cells (A.flatMap abG) 3 true true :: b3 :: iB (setL w 11) :: bx) rfl rfl (by decide) (abAt_C A) (inAt_C (setL w 11))
    rw [chk_of S] at a1
    rw [he] at a2
    generalize fewR r f A.length (abAt A) = F at *
    have fl : ¬ (setL w 11).length < F.length := by omega
    clear hp hcl hv he S ht t1 t2 hc vb hcc
    generalize setL w 11 = T at *
    generalize trV' r f c w = V at *
    simp only [iB, List.map_nil, List.flatMap_nil, List.length_nil, Int.natCast_zero] at *
    generalize A.flatMap abG = M at *
    simp (maxSteps := 1000000) (disch := first | omega | decide | assumption | simp [scal]) [o_convI cv_5_3, za_24, o_build za_24 pl_24, sz_24, sz_3, o_indexAddrS es_25, ze_25, o_buildSlice es_25 ze_25 (by decide) ba_25_1, ap_25, builtin_append ni_25, o_indexAddrA ea_49, loadA_eq ia_5, o_fieldAddr fa_24_0 (by decide), loadA_eq ia_3, o_fieldAddr fa_24_1 (by decide), lenA_sl lk_84, o_indexAddrS es_84, loadA_eq ia_85, za_85, sz_85, o_indexAddrA ea_85, o_fieldAddr fa_24_2 (by decide), loadA_eq ia_22, o_indexAddrS es_22, ze_22, o_buildSlice es_22 ze_22 (by decide) ba_22_1, ap_22, builtin_append ni_22, sz_22, lenA_sl lk_22, loadA_eq ia_24, lenA_sl lk_25, za_57, sz_57, o_fieldAddr fa_57_0 (by decide), o_fieldAddr fa_57_1 (by decide), loadA_eq ia_57, want_some q9_84g2, want_some q9_84g9, want_some q9_108g2, want_some q9_108g5, want_some q9_108g11, k15, za_55, ld55, rd12_B, o_indexAddrA ea_55, bC_arr, bC_len, bC_all, tB_len, tB_ptr, tB_ren, er, ef, L0, L2, hA, a1, a2, fl, L4]
end
end Go.Proofs.Ytiafgimgcbmgaaa.bl
namespace Go.Proofs.Ytiafgimgcbmgaaa.bl
open Go.GE Go.ChangeShapes Go.WideShapes Go.RowKit
set_option linter.unusedVariables false
set_option linter.unusedSimpArgs false
set_option maxRecDepth 100000
set_option maxHeartbeats 4000000
section
variable {H : Type} {enc : TypeId × Value → H} {W : World} {base b0 : Nat} {v : Value} {d : DataW H} {p : List MemPlace}
/-- twelve bytes as they are handed over -/
theorem open_b12 (hv : Value.okWide Try.prog W .any b0 49 v) (hd : DataW.Trod enc Try.prog W base (fun _ => true) true 49 v d p) : ∃ c : Nat → Nat, (∀ i, c i < 256) ∧ v = .agg (bC c).toArray ∧ ∀ m : Mp, VR m (.agg (bC c).toArray) v := by
  obtain ⟨zs, rfl, hw⟩ := open_array (ks := List.replicate 12 .u8) (d := 5) (show Try.prog.underlying 49 = some (.array 12 5) from by kernel_rfl) (by kernel_rfl) hv hd
  have hl : zs.length = 12 := by have := hw.1; simpa using this
  have e : ints (List.replicate 12 .u8) zs = bC fun i => (zs.getD i 0).toNat := by
    apply List.ext_getElem?
    intro i
    by_cases hi : i < 12
    · rw [bC_get hi]
      have hz : zs[i]? = some zs[i] := List.getElem?_eq_getElem (by omega)
      have hb := u8_wf (wfs_get hw (List.getElem_mem (show i < zs.length by omega)))
      unfold ints
      rw [List.getElem?_zipWith, List.getElem?_replicate, if_pos hi, hz]
      simp only [List.getD_eq_getElem?_getD, hz, Option.getD_some, uv]
      congr 2
      omega
    · rw [List.getElem?_eq_none (by rw [ints_len hw.1]; simp; omega), List.getElem?_eq_none (by rw [bC_len]; omega)]
  refine ⟨fun i => (zs.getD i 0).toNat, fun i => ?_, by rw [e], fun m => ?_⟩
  · show (zs.getD i 0).toNat < 256
    by_cases hi : i < zs.length
    · have hb := u8_wf (wfs_get hw (List.getElem_mem hi))
      rw [List.getD_eq_getElem?_getD, List.getElem?_eq_getElem hi, Option.getD_some]
      omega
    · rw [List.getD_eq_getElem?_getD, List.getElem?_eq_none (by omega)]
      simp
  · rw [← e]
    exact .agg VRL_ints
def rdG (zs : List (List Int)) (i : Nat) : Nat × Nat := (((zs.getD i []).getD 0 0).toNat, ((zs.getD i []).getD 1 0).toNat)
theorem rd_flat {zs : List (List Int)} (h : ∀ z ∈ zs, wfs [.u8, .u8] z) : RdC (zs.flatMap (ints [.u8, .u8])) 0 zs.length (rdG zs) := by
  have h' : ∀ z ∈ zs, wfs (List.replicate 2 .u8) z := h
  intro i hi
  have hz := List.getElem?_eq_getElem hi
  have hm := h' _ (List.getElem_mem hi)
  have hb : ∀ x ∈ zs[i], 0 ≤ x ∧ x ≤ 255 := fun x hx => u8_wf (wfs_get hm hx)
  have hl : zs[i].length = 2 := hm.1
  have eq : zs.getD i [] = zs[i] := by rw [List.getD_eq_getElem?_getD, hz, Option.getD_some]
  have g := fun j (hj : j < 2) => (show (zs.flatMap (ints [.u8, .u8]))[i * 2 + j]? = (ints [.u8, .u8] zs[i])[j]? from by
    obtain ⟨L, hL, hLl⟩ : ∃ L : List (Int × Int), zs = L.map (fun q => [q.1, q.2]) ∧ L.length = zs.length := by
      refine ⟨zs.map fun z => (z.getD 0 0, z.getD 1 0), ?_, by simp⟩
      rw [List.map_map]
      conv => lhs; rw [← List.map_id zs]
      refine List.map_congr_left fun z hz => ?_
      have := (h z hz).1
      match z, this with
      | [x, y], _ => rfl
    have e : zs.flatMap (ints [.u8, .u8]) = L.flatMap fun q => [.int .u8 q.1, .int .u8 q.2] := by
      rw [hL, List.flatMap_map]
      rfl
    have hLi : L[i]? = some (L[i]'(by omega)) := List.getElem?_eq_getElem (by omega)
    have ez : zs[i] = [(L[i]'(by omega)).1, (L[i]'(by omega)).2] := by simp [hL]
    rw [e, flat_get (k := 2) (fun _ => rfl) hLi hj, ez]
    rfl)
  match hzi : zs[i], hl with
  | [x, y], _ =>
    rw [hzi] at hb g
    have b0 := hb x (by simp)
    have b1 := hb y (by simp)
    have g0 := g 0 (by omega)
    have g1 := g 1 (by omega)
    have et : rdG zs i = (x.toNat, y.toNat) := by
      unfold rdG
      rw [eq, hzi]
      rfl
    rw [et]
    simp only [Nat.zero_add]
    rw [Nat.add_zero] at g0
    refine ⟨⟨?_, ?_⟩, by omega, by omega⟩
    · rw [g0]
      simp only [ints, List.zipWith, List.getElem?_cons_zero, uv, Option.some.injEq, Value.int.injEq, true_and]
      omega
    · rw [g1]
      simp only [ints, List.zipWith, List.getElem?_cons_zero, List.getElem?_cons_succ, uv, Option.some.injEq, Value.int.injEq, true_and]
      omega
/-- readings as they are handed over -/
theorem open_rds (hv : Value.okWide Try.prog W .any b0 84 v) (hd : DataW.Trod enc Try.prog W base (fun _ => true) true 84 v d p) :
    ∃ (n : Nat) (cs : List Value) (g : Nat → Nat × Nat) (mb : Option MB), RdC cs 0 n g ∧ WinO W mb (.cells cs 2 true false) ∧ ∀ (m : Mp) k, m k = mb → VR m (.slice (some ⟨k, 0, none⟩) n n) v := by
  obtain ⟨zs, mb, hw, hvr, hz, _⟩ := open_param_flat (ks := [.u8, .u8]) (d := 5) (show Try.prog.underlying 84 = some (.slice 85) from by kernel_rfl) (by kernel_rfl) (by kernel_rfl) (by decide) hv hd
  exact ⟨zs.length, _, rdG zs, mb, rd_flat hz, hw, fun m b hm => hvr m b hm⟩
end
end Go.Proofs.Ytiafgimgcbmgaaa.bl
