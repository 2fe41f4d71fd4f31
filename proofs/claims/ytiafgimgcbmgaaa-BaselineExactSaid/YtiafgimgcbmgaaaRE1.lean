/-
  Contracts of functions of the program at the limit evaluator. No condition.
-/
import Derived.Test.YtiafgimgcbmgaaaREN
import Derived.OpenShut
import Derived.Test.YtiafgimgcbmgaaaE28
import Derived.Test.YtiafgimgcbmgaaaE38
import Derived.Test.YtiafgimgcbmgaaaE39
import Derived.Test.YtiafgimgcbmgaaaE40
namespace Go.Proofs.Ytiafgimgcbmgaaa.bl
open Go.GE
set_option linter.unusedVariables false
set_option linter.unusedSimpArgs false
set_option maxRecDepth 100000
set_option maxHeartbeats 4000000
attribute [local simp] runOps_nil runOps_cons runOpsF_nil runOpsF_cons fstS_some fstF_some opStep_eq want_none oStep_true oStep_false fin_pure fin_read fin_alloc fin_write storeB wrN cellV addWr o_move o_assign o_pick o_alloc o_box o_load o_store o_nilCheck o_bin o_un o_extract o_callV o_callB o_callI callV_f callV_y callV_fc o_makeFunc partsA Instr.fill builtin_len builtin_max2 bin_add bin_sub bin_mul bin_quo bin_rem bin_lss bin_leq bin_gtr bin_geq bin_eql bin_neq un_neg un_not bin_shr bin_shl wrap_u64_id opd opds optAll putO nbeq nblt constOk isC ops sub cl cr co bodyOf thenS_normal thenS_ret thenS_exit thenS_goto afterN_normal afterN_ret afterN_exit afterN_goto condS_true condS_false blockS_normal blockS_ret blockS_exit blockS_goto headS normS normK_eq fixS_nil fixS_cons fix1 fixV emptyB keepO_nil keepO_cons roundC_normal roundC_exit roundC_ret roundC_goto sweep_eq sweepD rnm pickR pickW rootsB ptrT renT ptrFn renFn ptrB_flat ptrB_non renB_flat renB_non plainS_some drawS_some fpsOk disj unord range' dropTo enumT undef wrap_i64_id Value.cells mkCells ptrTo scal cellsAt rdN endS_ret resultsA Option.bind_some tupV finish reachN dep ptrL_eq ptrL renL_eq renL ptrV_bool ptrV_int ptrV_string ptrV_nilFunc ptrV_nilIface ptrV_nilPtr ptrV_ptr ptrV_nilSl ptrV_sl ptrV_iface ptrV_agg ptrV_tuple ptrV_func renV_bool renV_int renV_string renV_nilFunc renV_nilIface renV_nilPtr renV_ptr renV_nilSl renV_sl renV_iface renV_agg renV_tuple renV_func gotoS_goto gotoS_normal gotoS_exit gotoS_ret skip_seq sliceE bnd bndHi intOf optOpd keepT_nil keepT_cons keepC_t keepC_f lk_nil lk_cons lkC_t lkC_f has_nil has_cons hasC_t hasC_f rep_nil rep_cons repC_t repC_f put_eq putC_t putC_f mem_nil mem_cons memC_t memC_f idx_nil idx_cons idxC_t idxC_f reach_nil reach_cons reachC_t reachC_f
attribute [local simp] n56_1s n56_3s n56_4s n56_2s n56_0s Try.f56 n57_1s n57_3s n57_4s n57_2s n57_0s Try.f57
theorem other {f : FuncId} (hf : (15 : Nat) ≠ f) (a : List Value) (h : List Blk) : (wk.wtab.keep kpT).run f a h = none := by
  show GE.tabR [wk.ew] f a h = none
  have : Nat.beq wk.ew.f f = false := GE.beq_false.2 hf
  simp only [tabR, this, Bool.false_and, cond_false]
theorem go {f : FuncId} {args : List Value} {h : List Blk} {r : RR} (hf : (15 : Nat) ≠ f) (he : runB Try.prog LL f args h = some r) : LL.run f args h = some r := L_run (other hf _ _) he
/-- an absolute -/
structure Ab where
  h : Int
  lo : Int
  hi : Int
abbrev abV (a : Ab) : Value := .agg #[iv a.h, iv a.lo, iv a.hi]
abbrev shV (r f : Int) (b off n c : Nat) : Value := .agg #[iv r, iv f, .slice (some ⟨b, off, none⟩) n c]
/-- cells of absolutes -/
def AbC (cs : List Value) (off n : Nat) (l : Nat → Ab) : Prop := ∀ i, i < n → cs[off + i * 3]? = some (iv (l i).h) ∧ cs[off + i * 3 + 1]? = some (iv (l i).lo) ∧ cs[off + i * 3 + 2]? = some (iv (l i).hi)
theorem k56 (a b c : Int) (h : List Blk) : callH LL 56 [iv a, iv b, iv c] h = some ⟨.bool (decide (a ≤ b) && decide (b ≤ c)), h, [], []⟩ := by
  refine callH_plain (go (by decide) ?_) rfl rfl
  rw [run56 _ _ _ (by simp)]
  by_cases h1 : a ≤ b <;> by_cases h2 : b ≤ c <;>
  simp (maxSteps := 1000000) (disch := first | omega | decide | assumption | simp [scal]) [want_some q56_3g3, h1, h2]
def goodA (a : Ab) : Bool := (decide (0 ≤ a.h) && decide (a.h ≤ 10000)) && ((decide (-1000000 ≤ a.lo) && decide (a.lo ≤ a.hi)) && decide (a.hi ≤ 1000000))
theorem k57 (a : Ab) (h : List Blk) : callH LL 57 [abV a] h = some ⟨.bool (goodA a), h, [], []⟩ := by
  obtain ⟨x, y, z⟩ := a
  refine callH_none rfl (fun _ => rfl) (go (by decide) ?_) fun _ => rfl
  rw [run57 _ _ _ (by simp)]
  cases h1 : (decide (0 ≤ x) && decide (x ≤ 10000)) <;> cases h2 : (decide (-1000000 ≤ y) && decide (y ≤ z)) <;>
  simp (maxSteps := 1000000) (disch := first | omega | decide | assumption | simp [scal]) [o_fieldAddr fa_59_0 (by decide), loadA_eq ia_3, o_fieldAddr fa_59_1 (by decide), o_fieldAddr fa_57_0 (by decide), o_fieldAddr fa_57_1 (by decide), want_some q57_3g3, want_some q57_3g12, h1, h2, k56, goodA]
end Go.Proofs.Ytiafgimgcbmgaaa.bl
namespace Go.Proofs.Ytiafgimgcbmgaaa.bl
open Go.GE
set_option linter.unusedVariables false
set_option linter.unusedSimpArgs false
set_option maxRecDepth 100000
set_option maxHeartbeats 4000000
attribute [local simp] runOps_nil runOps_cons runOpsF_nil runOpsF_cons fstS_some fstF_some opStep_eq want_none oStep_true oStep_false fin_pure fin_read fin_alloc fin_write storeB wrN cellV addWr o_move o_assign o_pick o_alloc o_box o_load o_store o_nilCheck o_bin o_un o_extract o_callV o_callB o_callI callV_f callV_y callV_fc o_makeFunc partsA Instr.fill builtin_len builtin_max2 bin_add bin_sub bin_mul bin_quo bin_rem bin_lss bin_leq bin_gtr bin_geq bin_eql bin_neq un_neg un_not bin_shr bin_shl wrap_u64_id opd opds optAll putO nbeq nblt constOk isC ops sub cl cr co bodyOf thenS_normal thenS_ret thenS_exit thenS_goto afterN_normal afterN_ret afterN_exit afterN_goto condS_true condS_false blockS_normal blockS_ret blockS_exit blockS_goto headS normS normK_eq fixS_nil fixS_cons fix1 fixV emptyB keepO_nil keepO_cons roundC_normal roundC_exit roundC_ret roundC_goto sweep_eq sweepD rnm pickR pickW rootsB ptrT renT ptrFn renFn ptrB_flat ptrB_non renB_flat renB_non plainS_some drawS_some fpsOk disj unord range' dropTo enumT undef wrap_i64_id Value.cells mkCells ptrTo scal cellsAt rdN endS_ret resultsA Option.bind_some tupV finish reachN dep ptrL_eq ptrL renL_eq renL ptrV_bool ptrV_int ptrV_string ptrV_nilFunc ptrV_nilIface ptrV_nilPtr ptrV_ptr ptrV_nilSl ptrV_sl ptrV_iface ptrV_agg ptrV_tuple ptrV_func renV_bool renV_int renV_string renV_nilFunc renV_nilIface renV_nilPtr renV_ptr renV_nilSl renV_sl renV_iface renV_agg renV_tuple renV_func gotoS_goto gotoS_normal gotoS_exit gotoS_ret skip_seq sliceE bnd bndHi intOf optOpd keepT_nil keepT_cons keepC_t keepC_f lk_nil lk_cons lkC_t lkC_f has_nil has_cons hasC_t hasC_f rep_nil rep_cons repC_t repC_f put_eq putC_t putC_f mem_nil mem_cons memC_t memC_f idx_nil idx_cons idxC_t idxC_f reach_nil reach_cons reachC_t reachC_f
attribute [local simp] n22_1s n22_5s n22_8s n22_9s n22_7s n22_11s n22_14s n22_15s n22_13s n22_17s n22_20s n22_21s n22_19s n22_22s n22_18s n22_16s n22_12s n22_10s n22_6s n22_4s n22_3s n22_24s n22_27s n22_31s n22_34s n22_35s n22_33s n22_39s n22_43s n22_46s n22_47s n22_45s n22_49s n22_52s n22_53s n22_51s n22_54s n22_50s n22_48s n22_44s n22_42s n22_41s n22_55s n22_40s n22_38s n22_37s n22_56s n22_36s n22_32s n22_30s n22_29s n22_29g n22_28s n22_26s n22_58s n22_59s n22_57s n22_25s n22_23s n22_2s n22_0s Try.f22
def chkL (l : Nat → Ab) : Nat → Nat → Int → Int
  | 0, _, _ => 0
  | k + 1, i, last => if goodA (l i) = false then 1 else if (l i).h ≤ last then 5 else chkL l k (i + 1) (l i).h
noncomputable def chkS (r f : Int) (n : Nat) (l : Nat → Ab) : Int :=
  if ((decide (0 ≤ r) && decide (r ≤ 1000)) && (decide (0 ≤ f) && decide (f ≤ 1000))) = false then 1 else if n = 0 then 2 else if 40 < n then 3 else chkL l n 0 (-1)
section
variable (r f : Int) (off n c : Nat) (cs : List Value) (own : Bool) (l : Nat → Ab)
theorem l22 (hc : AbC cs off n l) (hn : n ≤ 40) : ∀ k (i : Nat) last, i + k = n →
    lpB Try.prog LL ⟨22, 46, 1, none⟩ n22_29 n22_30 ⟨[(3, iv last), (28, .slice (some ⟨0, off, none⟩) n c), (29, iv n), (30, iv i)], [.cells cs 3 true own], []⟩ =
      if chkL l k i last = 0 then some (.exit 1, ⟨[], [.cells cs 3 true own], []⟩) else some (.ret, ⟨[(2, iv (chkL l k i last))], [.cells cs 3 true own], []⟩) := by
  intro k
  induction k with
  | zero =>
    intro i last hi
    obtain rfl : i = n := by omega
    rw [lpB_eq]
    simp (maxSteps := 1000000) (disch := first | omega | decide | assumption | simp [scal]) [o_fieldAddr fa_24_0 (by decide), loadA_eq ia_3, o_fieldAddr fa_24_1 (by decide), o_fieldAddr fa_24_2 (by decide), loadA_eq ia_22, lenA_sl lk_22, o_indexAddrS es_22, loadA_eq ia_59, za_59, sz_59, o_fieldAddr fa_59_0 (by decide), want_some q22_5g4, chkL]
  | succ k ih =>
    intro i last hi
    have e1 : i < n := by omega
    have this := ih (i + 1) (l i).h (by omega)
    obtain ⟨e2, e3, e4⟩ := hc i e1
    have e5 := fun h => k57 (l i) h
    have e6 : (i : Int) < n := by omega
    rw [lpB_eq]
    simp only [cast1] at this
    cases h1 : goodA (l i)
    · simp (maxSteps := 1000000) (disch := first | omega | decide | assumption | simp [scal]) [o_fieldAddr fa_24_0 (by decide), loadA_eq ia_3, o_fieldAddr fa_24_1 (by decide), o_fieldAddr fa_24_2 (by decide), loadA_eq ia_22, lenA_sl lk_22, o_indexAddrS es_22, loadA_eq ia_59, za_59, sz_59, o_fieldAddr fa_59_0 (by decide), want_some q22_5g4, chkL, e1, e2, e3, e4, e5, e6, h1]
    · by_cases h2 : (l i).h ≤ last
      · simp (maxSteps := 1000000) (disch := first | omega | decide | assumption | simp [scal]) [o_fieldAddr fa_24_0 (by decide), loadA_eq ia_3, o_fieldAddr fa_24_1 (by decide), o_fieldAddr fa_24_2 (by decide), loadA_eq ia_22, lenA_sl lk_22, o_indexAddrS es_22, loadA_eq ia_59, za_59, sz_59, o_fieldAddr fa_59_0 (by decide), want_some q22_5g4, chkL, e1, e2, e3, e4, e5, e6, h1, h2]
      · simp (maxSteps := 1000000) (disch := first | omega | decide | assumption | simp [scal]) [o_fieldAddr fa_24_0 (by decide), loadA_eq ia_3, o_fieldAddr fa_24_1 (by decide), o_fieldAddr fa_24_2 (by decide), loadA_eq ia_22, lenA_sl lk_22, o_indexAddrS es_22, loadA_eq ia_59, za_59, sz_59, o_fieldAddr fa_59_0 (by decide), want_some q22_5g4, chkL, e1, e2, e3, e4, e5, e6, h1, h2, this]
theorem c22 (hc : AbC cs off n l) : LL.run 22 [shV r f 0 off n c] [.cells cs 3 true own] = some ⟨iv (chkS r f n l), [], []⟩ := by
  refine go (by decide) ?_
  rw [run22 _ _ _ (by simp)]
  unfold chkS
  cases h1 : (decide (0 ≤ r) && decide (r ≤ 1000))
  · simp (maxSteps := 1000000) (disch := first | omega | decide | assumption | simp [scal]) [o_fieldAddr fa_24_0 (by decide), loadA_eq ia_3, o_fieldAddr fa_24_1 (by decide), o_fieldAddr fa_24_2 (by decide), loadA_eq ia_22, lenA_sl lk_22, o_indexAddrS es_22, loadA_eq ia_59, za_59, sz_59, o_fieldAddr fa_59_0 (by decide), want_some q22_5g4, k56, h1]
  cases h2 : (decide (0 ≤ f) && decide (f ≤ 1000))
  · simp (maxSteps := 1000000) (disch := first | omega | decide | assumption | simp [scal]) [o_fieldAddr fa_24_0 (by decide), loadA_eq ia_3, o_fieldAddr fa_24_1 (by decide), o_fieldAddr fa_24_2 (by decide), loadA_eq ia_22, lenA_sl lk_22, o_indexAddrS es_22, loadA_eq ia_59, za_59, sz_59, o_fieldAddr fa_59_0 (by decide), want_some q22_5g4, k56, h1, h2]
  by_cases h3 : n = 0
  · subst h3
    simp (maxSteps := 1000000) (disch := first | omega | decide | assumption | simp [scal]) [o_fieldAddr fa_24_0 (by decide), loadA_eq ia_3, o_fieldAddr fa_24_1 (by decide), o_fieldAddr fa_24_2 (by decide), loadA_eq ia_22, lenA_sl lk_22, o_indexAddrS es_22, loadA_eq ia_59, za_59, sz_59, o_fieldAddr fa_59_0 (by decide), want_some q22_5g4, k56, h1, h2]
  have h3' : ¬ (n : Int) = 0 := by omega
  by_cases h4 : 40 < n
  · have h4' : (40 : Int) < n := by omega
    simp (maxSteps := 1000000) (disch := first | omega | decide | assumption | simp [scal]) [o_fieldAddr fa_24_0 (by decide), loadA_eq ia_3, o_fieldAddr fa_24_1 (by decide), o_fieldAddr fa_24_2 (by decide), loadA_eq ia_22, lenA_sl lk_22, o_indexAddrS es_22, loadA_eq ia_59, za_59, sz_59, o_fieldAddr fa_59_0 (by decide), want_some q22_5g4, k56, h1, h2, h3, h3', h4, h4']
  have h4' : ¬ (40 : Int) < n := by omega
  have this := l22 off n c cs own l hc (by omega) n 0 (-1) (by omega)
  simp only [Int.natCast_zero] at this
  by_cases h5 : chkL l n 0 (-1) = 0
  · rw [if_pos h5] at this
    simp (maxSteps := 1000000) (disch := first | omega | decide | assumption | simp [scal]) [o_fieldAddr fa_24_0 (by decide), loadA_eq ia_3, o_fieldAddr fa_24_1 (by decide), o_fieldAddr fa_24_2 (by decide), loadA_eq ia_22, lenA_sl lk_22, o_indexAddrS es_22, loadA_eq ia_59, za_59, sz_59, o_fieldAddr fa_59_0 (by decide), want_some q22_5g4, k56, h1, h2, h3, h3', h4, h4', this, h5]
  · rw [if_neg h5] at this
    simp (maxSteps := 1000000) (disch := first | omega | decide | assumption | simp [scal]) [o_fieldAddr fa_24_0 (by decide), loadA_eq ia_3, o_fieldAddr fa_24_1 (by decide), o_fieldAddr fa_24_2 (by decide), loadA_eq ia_22, lenA_sl lk_22, o_indexAddrS es_22, loadA_eq ia_59, za_59, sz_59, o_fieldAddr fa_59_0 (by decide), want_some q22_5g4, k56, h1, h2, h3, h3', h4, h4', this]
end
section
variable (r f : Int) (b off n c : Nat) {cs : List Value} {own : Bool} (l : Nat → Ab) {h : List Blk}
theorem sh_ren : optAll (renV (idx [b]) dep) [shV r f b off n c] = some [shV r f 0 off n c] := by simp [renV, dep, optAll, idx, nbeq]
theorem k22 (hb : h[b]? = some (.cells cs 3 true own)) (hc : AbC cs off n l) : callH LL 22 [shV r f b off n c] h = some ⟨iv (chkS r f n l), h, [b], []⟩ :=
  callH_1 rfl hb noIdB_flat (sh_ren r f b off n c) (c22 r f off n c cs own l hc) fun _ => rfl
end
end Go.Proofs.Ytiafgimgcbmgaaa.bl
namespace Go.Proofs.Ytiafgimgcbmgaaa.bl
open Go.GE
set_option linter.unusedVariables false
set_option linter.unusedSimpArgs false
set_option maxRecDepth 100000
set_option maxHeartbeats 4000000
abbrev shB (r f : Int) (b off n c : Nat) : Blk := .cells [iv r, iv f, .slice (some ⟨b, off, none⟩) n c] 1 false true
end Go.Proofs.Ytiafgimgcbmgaaa.bl
namespace Go.Proofs.Ytiafgimgcbmgaaa.bl
open Go.GE
set_option linter.unusedVariables false
set_option linter.unusedSimpArgs false
set_option maxRecDepth 100000
set_option maxHeartbeats 4000000
attribute [local simp] runOps_nil runOps_cons runOpsF_nil runOpsF_cons fstS_some fstF_some opStep_eq want_none oStep_true oStep_false fin_pure fin_read fin_alloc fin_write storeB wrN cellV addWr o_move o_assign o_pick o_alloc o_box o_load o_store o_nilCheck o_bin o_un o_extract o_callV o_callB o_callI callV_f callV_y callV_fc o_makeFunc partsA Instr.fill builtin_len builtin_max2 bin_add bin_sub bin_mul bin_quo bin_rem bin_lss bin_leq bin_gtr bin_geq bin_eql bin_neq un_neg un_not bin_shr bin_shl wrap_u64_id opd opds optAll putO nbeq nblt constOk isC ops sub cl cr co bodyOf thenS_normal thenS_ret thenS_exit thenS_goto afterN_normal afterN_ret afterN_exit afterN_goto condS_true condS_false blockS_normal blockS_ret blockS_exit blockS_goto headS normS normK_eq fixS_nil fixS_cons fix1 fixV emptyB keepO_nil keepO_cons roundC_normal roundC_exit roundC_ret roundC_goto sweep_eq sweepD rnm pickR pickW rootsB ptrT renT ptrFn renFn ptrB_flat ptrB_non renB_flat renB_non plainS_some drawS_some fpsOk disj unord range' dropTo enumT undef wrap_i64_id Value.cells mkCells ptrTo scal cellsAt rdN endS_ret resultsA Option.bind_some tupV finish reachN dep ptrL_eq ptrL renL_eq renL ptrV_bool ptrV_int ptrV_string ptrV_nilFunc ptrV_nilIface ptrV_nilPtr ptrV_ptr ptrV_nilSl ptrV_sl ptrV_iface ptrV_agg ptrV_tuple ptrV_func renV_bool renV_int renV_string renV_nilFunc renV_nilIface renV_nilPtr renV_ptr renV_nilSl renV_sl renV_iface renV_agg renV_tuple renV_func gotoS_goto gotoS_normal gotoS_exit gotoS_ret skip_seq sliceE bnd bndHi intOf optOpd keepT_nil keepT_cons keepC_t keepC_f lk_nil lk_cons lkC_t lkC_f has_nil has_cons hasC_t hasC_f rep_nil rep_cons repC_t repC_f put_eq putC_t putC_f mem_nil mem_cons memC_t memC_f idx_nil idx_cons idxC_t idxC_f reach_nil reach_cons reachC_t reachC_f
attribute [local simp] n85_1s n85_4s n85_6s n85_9s n85_10s n85_8s n85_11s n85_7s n85_5s n85_3s n85_13s n85_15s n85_16s n85_14s n85_12s n85_2s n85_0s Try.f85 n58_1s n58_3s n58_5s n58_6s n58_4s n58_2s n58_0s Try.f58
structure Dr (r f : Int) : Prop where
  r0 : 0 ≤ r
  r1 : r ≤ 1000
  f0 : 0 ≤ f
  f1 : f ≤ 1000
structure OkA (a : Ab) : Prop where
  h0 : 0 ≤ a.h
  h1 : a.h ≤ 10000
  l0 : -1000000 ≤ a.lo
  l1 : a.lo ≤ a.hi
  l2 : a.hi ≤ 1000000
theorem okA_iff (a : Ab) : goodA a = true ↔ OkA a := by
  simp only [goodA, Bool.and_eq_true, decide_eq_true_eq]
  exact ⟨fun ⟨⟨a, b⟩, ⟨c, d⟩, e⟩ => ⟨a, b, c, d, e⟩, fun ⟨a, b, c, d, e⟩ => ⟨⟨a, b⟩, ⟨c, d⟩, e⟩⟩
theorem mulB {d f : Int} (h0 : 0 ≤ d) (h1 : d ≤ 10000) (f0 : 0 ≤ f) (f1 : f ≤ 1000) : 0 ≤ d * f ∧ d * f ≤ 10000000 := by
  refine ⟨Int.mul_nonneg h0 f0, ?_⟩
  have := Int.mul_le_mul h1 f1 f0 (by omega)
  omega
/-- the values at an hour by one absolute -/
def arLo (r f : Int) (a : Ab) (x : Int) : Int := if 0 ≤ x - a.h then a.lo - (x - a.h) * f else a.lo - (a.h - x) * r
def arHi (r f : Int) (a : Ab) (x : Int) : Int := if 0 ≤ x - a.h then a.hi + (x - a.h) * r else a.hi + (a.h - x) * f
section
variable (r f : Int) (b off n c : Nat) {cs : List Value} {own : Bool} {h : List Blk}
theorem k85 (D : Dr r f) (a : Ab) (A : OkA a) (x : Int) (x0 : 0 ≤ x) (x1 : x ≤ 10000) (hb : h[b]? = some (.cells cs 3 true own)) :
    callH LL 85 [shV r f b off n c, abV a, iv x] h = some ⟨.agg #[iv (arLo r f a x), iv (arHi r f a x)], h, [b], []⟩ := by
  obtain ⟨r0, r1, f0, f1⟩ := D
  obtain ⟨ah, al, au⟩ := a
  obtain ⟨h0, h1, l0, l1, l2⟩ := A
  simp only at h0 h1 l0 l1 l2
  refine callH_1 rfl hb noIdB_flat (args' := [shV r f 0 off n c, abV ⟨ah, al, au⟩, iv x]) (by simp [renV, dep, optAll, idx, nbeq]) (go (by decide) ?_) fun _ => rfl
  rw [run85 _ _ _ (by simp)]
  simp only [arLo, arHi]
  by_cases hx : 0 ≤ x - ah
  · rw [if_pos hx, if_pos hx]
    obtain ⟨d, hd⟩ : ∃ d, x - ah = d := ⟨_, rfl⟩
    have m1 := mulB (d := d) (by omega) (by omega) f0 f1
    have m2 := mulB (d := d) (by omega) (by omega) r0 r1
    rw [hd] at hx ⊢
    simp (maxSteps := 1000000) (disch := first | omega | decide | assumption | simp [scal]) [za_57, o_fieldAddr fa_59_0 (by decide), loadA_eq ia_3, o_fieldAddr fa_59_1 (by decide), o_fieldAddr fa_57_0 (by decide), o_fieldAddr fa_24_1 (by decide), o_fieldAddr fa_57_1 (by decide), o_fieldAddr fa_24_0 (by decide), o_build za_57 pl_57, sz_57, loadA_eq ia_57, hd, hx]
  · rw [if_neg hx, if_neg hx]
    obtain ⟨d, hd⟩ : ∃ d, ah - x = d := ⟨_, rfl⟩
    have m1 := mulB (d := d) (by omega) (by omega) f0 f1
    have m2 := mulB (d := d) (by omega) (by omega) r0 r1
    have hx' : ¬ (ah ≤ x) := by omega
    rw [hd]
    simp (maxSteps := 1000000) (disch := first | omega | decide | assumption | simp [scal]) [za_57, o_fieldAddr fa_59_0 (by decide), loadA_eq ia_3, o_fieldAddr fa_59_1 (by decide), o_fieldAddr fa_57_0 (by decide), o_fieldAddr fa_24_1 (by decide), o_fieldAddr fa_57_1 (by decide), o_fieldAddr fa_24_0 (by decide), o_build za_57 pl_57, sz_57, loadA_eq ia_57, hd, hx']
/-- two absolutes, the earlier one first, need a step -/
def needS (r f : Int) (a b : Ab) : Bool := decide (b.hi < arLo r f a b.h) || decide (arHi r f a b.h < b.lo)
theorem k58 (D : Dr r f) (a : Ab) (A : OkA a) (d : Ab) (B : OkA d) (hb : h[b]? = some (.cells cs 3 true own)) :
    callH LL 58 [shV r f b off n c, abV a, abV d] h = some ⟨.bool (needS r f a d), h, [b], []⟩ := by
  have e1 := fun (h : List Blk) hb => k85 r f 0 off n c (h := h) (cs := cs) (own := own) D a A d.h B.h0 B.h1 hb
  obtain ⟨dh, dl, du⟩ := d
  refine callH_1 rfl hb noIdB_flat (args' := [shV r f 0 off n c, abV a, abV ⟨dh, dl, du⟩]) (by simp [renV, dep, optAll, idx, nbeq]) (go (by decide) ?_) fun _ => rfl
  rw [run58 _ _ _ (by simp)]
  simp only [needS] at e1 ⊢
  obtain ⟨x1, hx1⟩ : ∃ x, arLo r f a dh = x := ⟨_, rfl⟩
  obtain ⟨x2, hx2⟩ : ∃ x, arHi r f a dh = x := ⟨_, rfl⟩
  rw [hx1, hx2]
  simp only [hx1, hx2] at e1
  by_cases q1 : du < x1 <;> by_cases q2 : x2 < dl <;>
  simp (maxSteps := 1000000) (disch := first | omega | decide | assumption | simp [scal]) [loadA_eq ia_24, loadA_eq ia_59, o_fieldAddr fa_59_0 (by decide), loadA_eq ia_3, za_57, sz_57, o_fieldAddr fa_57_0 (by decide), o_fieldAddr fa_59_1 (by decide), o_fieldAddr fa_57_1 (by decide), loadA_eq ia_57, want_some q58_5g6, e1, q1, q2]
end
end Go.Proofs.Ytiafgimgcbmgaaa.bl
namespace Go.Proofs.Ytiafgimgcbmgaaa.bl
open Go.GE
set_option linter.unusedVariables false
set_option linter.unusedSimpArgs false
set_option maxRecDepth 100000
set_option maxHeartbeats 4000000
attribute [local simp] runOps_nil runOps_cons runOpsF_nil runOpsF_cons fstS_some fstF_some opStep_eq want_none oStep_true oStep_false fin_pure fin_read fin_alloc fin_write storeB wrN cellV addWr o_move o_assign o_pick o_alloc o_box o_load o_store o_nilCheck o_bin o_un o_extract o_callV o_callB o_callI callV_f callV_y callV_fc o_makeFunc partsA Instr.fill builtin_len builtin_max2 bin_add bin_sub bin_mul bin_quo bin_rem bin_lss bin_leq bin_gtr bin_geq bin_eql bin_neq un_neg un_not bin_shr bin_shl wrap_u64_id opd opds optAll putO nbeq nblt constOk isC ops sub cl cr co bodyOf thenS_normal thenS_ret thenS_exit thenS_goto afterN_normal afterN_ret afterN_exit afterN_goto condS_true condS_false blockS_normal blockS_ret blockS_exit blockS_goto headS normS normK_eq fixS_nil fixS_cons fix1 fixV emptyB keepO_nil keepO_cons roundC_normal roundC_exit roundC_ret roundC_goto sweep_eq sweepD rnm pickR pickW rootsB ptrT renT ptrFn renFn ptrB_flat ptrB_non renB_flat renB_non plainS_some drawS_some fpsOk disj unord range' dropTo enumT undef wrap_i64_id Value.cells mkCells ptrTo scal cellsAt rdN endS_ret resultsA Option.bind_some tupV finish reachN dep ptrL_eq ptrL renL_eq renL ptrV_bool ptrV_int ptrV_string ptrV_nilFunc ptrV_nilIface ptrV_nilPtr ptrV_ptr ptrV_nilSl ptrV_sl ptrV_iface ptrV_agg ptrV_tuple ptrV_func renV_bool renV_int renV_string renV_nilFunc renV_nilIface renV_nilPtr renV_ptr renV_nilSl renV_sl renV_iface renV_agg renV_tuple renV_func gotoS_goto gotoS_normal gotoS_exit gotoS_ret skip_seq sliceE bnd bndHi intOf optOpd keepT_nil keepT_cons keepC_t keepC_f lk_nil lk_cons lkC_t lkC_f has_nil has_cons hasC_t hasC_f rep_nil rep_cons repC_t repC_f put_eq putC_t putC_f mem_nil mem_cons memC_t memC_f idx_nil idx_cons idxC_t idxC_f reach_nil reach_cons reachC_t reachC_f
attribute [local simp] n109_1s n109_3s n109_4s n109_2s n109_0s Try.f109 n111_1s n111_3s n111_4s n111_2s n111_0s Try.f111 n108_1s n108_3s n108_4s n108_2s n108_0s Try.f108 n104_1s n104_3s n104_5s n104_11s n104_13s n104_14s n104_12s n104_10s n104_17s n104_19s n104_21s n104_22s n104_20s n104_18s n104_16s n104_15s n104_9s n104_8s n104_8g n104_7s n104_24s n104_25s n104_23s n104_6s n104_4s n104_2s n104_0s Try.f104
theorem k109 (a : Int) (h : List Blk) : callH LL 109 [iv a] h = some ⟨.bool false, h, [], []⟩ := by
  refine callH_plain (go (by decide) ?_) rfl rfl
  rw [run109 _ _ _ (by simp)]
  simp (maxSteps := 1000000) (disch := first | omega | decide | assumption | simp [scal])
theorem k111 (a : Int) (h : List Blk) : callH LL 111 [iv a] h = some ⟨.bool false, h, [], []⟩ := by
  refine callH_plain (go (by decide) ?_) rfl rfl
  rw [run111 _ _ _ (by simp)]
  simp (maxSteps := 1000000) (disch := first | omega | decide | assumption | simp [scal])
theorem k108 (a b : Int) (h : List Blk) : callH LL 108 [iv a, iv b] h = some ⟨.bool (decide (a < b)), h, [], []⟩ := by
  refine callH_plain (go (by decide) ?_) rfl rfl
  rw [run108 _ _ _ (by simp)]
  by_cases h1 : a < b <;>
  simp (maxSteps := 1000000) (disch := first | omega | decide | assumption | simp [scal]) [want_some q108_3g2, want_some q108_3g7, h1, k111]
/-- how many, from the first one on, are less -/
def partL (st : Nat → Int) (x : Int) : Nat → Nat → Nat
  | 0, i => i
  | k + 1, i => if st i < x then partL st x k (i + 1) else i
def partS (m : Nat) (st : Nat → Int) (x : Int) : Nat := partL st x m 0
theorem partL_spec {st : Nat → Int} {x : Int} : ∀ k i, i ≤ partL st x k i ∧ partL st x k i ≤ i + k ∧ (∀ j, i ≤ j → j < partL st x k i → st j < x) ∧ (partL st x k i < i + k → ¬ st (partL st x k i) < x) := by
  intro k
  induction k with
  | zero => intro i; simp [partL]; omega
  | succ k ih =>
    intro i
    unfold partL
    split
    · rename_i h
      obtain ⟨h1, h2, h3, h4⟩ := ih (i + 1)
      refine ⟨by omega, by omega, fun j hj hk => ?_, fun hl => h4 (by omega)⟩
      rcases Nat.eq_or_lt_of_le hj with rfl | hj
      · exact h
      · exact h3 j hj hk
    · rename_i h
      exact ⟨by omega, by omega, fun j hj hk => by omega, fun _ => h⟩
/-- numbers that rise -/
def Asc (m : Nat) (st : Nat → Int) : Prop := ∀ i j, i < j → j < m → st i < st j
theorem part_iff {m : Nat} {st : Nat → Int} (ha : Asc m st) (x : Int) {i : Nat} (hi : i < m) : st i < x ↔ i < partS m st x := by
  obtain ⟨h1, h2, h3, h4⟩ := partL_spec (st := st) (x := x) m 0
  unfold partS
  constructor
  · intro h
    rcases Nat.lt_or_ge i (partL st x m 0) with h5 | h5
    · exact h5
    · have h6 := h4 (by omega)
      rcases Nat.eq_or_lt_of_le h5 with h7 | h7
      · rw [h7] at h6; exact absurd h h6
      · have := ha _ _ h7 hi; omega
  · intro h; exact h3 i (Nat.zero_le _) h
theorem part_le {m : Nat} {st : Nat → Int} {x : Int} : partS m st x ≤ m := by
  have := (partL_spec (st := st) (x := x) m 0).2.1
  unfold partS; omega
/-- cells of integers -/
def IvC (cs : List Value) (off n : Nat) (st : Nat → Int) : Prop := ∀ i, i < n → cs[off + i]? = some (iv (st i))
section
variable (off m c : Nat) (cs : List Value) (own : Bool) (st : Nat → Int)
theorem l104 (hc : IvC cs off m st) (ha : Asc m st) (x : Int) (hm : m ≤ 1000) : ∀ k lo hi : Nat, hi - lo ≤ k → lo ≤ partS m st x → partS m st x ≤ hi → hi ≤ m →
    lpB Try.prog LL ⟨104, 54, 1, none⟩ n104_8 n104_9 ⟨[(0, .slice (some ⟨0, off, none⟩) m c), (1, iv x), (6, iv m), (7, iv lo), (8, iv hi)], [.cells cs 1 true own], []⟩ =
      some (.exit 0, ⟨[(0, .slice (some ⟨0, off, none⟩) m c), (1, iv x), (6, iv m), (7, iv (partS m st x))], [.cells cs 1 true own], []⟩) := by
  intro k
  induction k with
  | zero =>
    intro lo hi h1 h2 h3 h4
    obtain rfl : lo = hi := by omega
    obtain rfl : lo = partS m st x := by omega
    rw [lpB_eq]
    simp (maxSteps := 1000000) (disch := first | omega | decide | assumption | simp [scal]) [lenA_sl lk_25, o_convI cv_3_190, o_convI cv_190_3, o_indexAddrS es_25, loadA_eq ia_3, want_some q104_24g4, want_some q104_24g11, want_some q104_24g17]
  | succ k ih =>
    intro lo hi h1 h2 h3 h4
    by_cases hlt : lo < hi
    · obtain ⟨mid, hmid⟩ : ∃ mid, (lo + hi) / 2 = mid := ⟨_, rfl⟩
      have e2 : ((lo : Int) + hi).fdiv 2 = mid := by rw [Int.fdiv_eq_ediv_of_nonneg _ (by decide)]; omega
      have e3 := hc mid (by omega)
      have e4 : mid < m := by omega
      have e5 := part_iff ha x e4
      rw [lpB_eq]
      by_cases hb : st mid < x
      · have this := ih (mid + 1) hi (by omega) (by have := e5.1 hb; omega) h3 h4
        simp only [cast1] at this
        simp (maxSteps := 1000000) (disch := first | omega | decide | assumption | simp [scal]) [lenA_sl lk_25, o_convI cv_3_190, o_convI cv_190_3, o_indexAddrS es_25, loadA_eq ia_3, want_some q104_24g4, want_some q104_24g11, want_some q104_24g17, hlt, e2, e3, e4, k108, hb, this]
      · have hb2 : ¬ mid < partS m st x := fun h => hb (e5.2 h)
        have this := ih lo mid (by omega) h2 (by omega) (by omega)
        simp (maxSteps := 1000000) (disch := first | omega | decide | assumption | simp [scal]) [lenA_sl lk_25, o_convI cv_3_190, o_convI cv_190_3, o_indexAddrS es_25, loadA_eq ia_3, want_some q104_24g4, want_some q104_24g11, want_some q104_24g17, hlt, e2, e3, e4, k108, hb, this]
    · obtain rfl : lo = hi := by omega
      obtain rfl : lo = partS m st x := by omega
      rw [lpB_eq]
      simp (maxSteps := 1000000) (disch := first | omega | decide | assumption | simp [scal]) [lenA_sl lk_25, o_convI cv_3_190, o_convI cv_190_3, o_indexAddrS es_25, loadA_eq ia_3, want_some q104_24g4, want_some q104_24g11, want_some q104_24g17]
theorem c104 (hc : IvC cs off m st) (ha : Asc m st) (x : Int) (hm : m ≤ 1000) : ∃ b, LL.run 104 [.slice (some ⟨0, off, none⟩) m c, iv x] [.cells cs 1 true own] = some ⟨.tuple #[iv (partS m st x), .bool b], [], []⟩ := by
  have hp := part_le (m := m) (st := st) (x := x)
  have this := l104 off m c cs own st hc ha x hm m 0 m (by omega) (Nat.zero_le _) hp (Nat.le_refl _)
  simp only [Int.natCast_zero] at this
  by_cases h1 : partS m st x < m
  · have e3 := hc _ h1
    by_cases h2 : st (partS m st x) = x
    · refine ⟨true, go (by decide) ?_⟩
      rw [run104 _ _ _ (by simp)]
      simp (maxSteps := 1000000) (disch := first | omega | decide | assumption | simp [scal]) [lenA_sl lk_25, o_convI cv_3_190, o_convI cv_190_3, o_indexAddrS es_25, loadA_eq ia_3, want_some q104_24g4, want_some q104_24g11, want_some q104_24g17, this, h1, e3, h2]
    · refine ⟨false, go (by decide) ?_⟩
      rw [run104 _ _ _ (by simp)]
      simp (maxSteps := 1000000) (disch := first | omega | decide | assumption | simp [scal]) [lenA_sl lk_25, o_convI cv_3_190, o_convI cv_190_3, o_indexAddrS es_25, loadA_eq ia_3, want_some q104_24g4, want_some q104_24g11, want_some q104_24g17, this, h1, e3, h2, k109]
  · refine ⟨false, go (by decide) ?_⟩
    rw [run104 _ _ _ (by simp)]
    simp (maxSteps := 1000000) (disch := first | omega | decide | assumption | simp [scal]) [lenA_sl lk_25, o_convI cv_3_190, o_convI cv_190_3, o_indexAddrS es_25, loadA_eq ia_3, want_some q104_24g4, want_some q104_24g11, want_some q104_24g17, this, h1]
end
end Go.Proofs.Ytiafgimgcbmgaaa.bl
namespace Go.Proofs.Ytiafgimgcbmgaaa.bl
open Go.GE
set_option linter.unusedVariables false
set_option linter.unusedSimpArgs false
set_option maxRecDepth 100000
set_option maxHeartbeats 4000000
attribute [local simp] runOps_nil runOps_cons runOpsF_nil runOpsF_cons fstS_some fstF_some opStep_eq want_none oStep_true oStep_false fin_pure fin_read fin_alloc fin_write storeB wrN cellV addWr o_move o_assign o_pick o_alloc o_box o_load o_store o_nilCheck o_bin o_un o_extract o_callV o_callB o_callI callV_f callV_y callV_fc o_makeFunc partsA Instr.fill builtin_len builtin_max2 bin_add bin_sub bin_mul bin_quo bin_rem bin_lss bin_leq bin_gtr bin_geq bin_eql bin_neq un_neg un_not bin_shr bin_shl wrap_u64_id opd opds optAll putO nbeq nblt constOk isC ops sub cl cr co bodyOf thenS_normal thenS_ret thenS_exit thenS_goto afterN_normal afterN_ret afterN_exit afterN_goto condS_true condS_false blockS_normal blockS_ret blockS_exit blockS_goto headS normS normK_eq fixS_nil fixS_cons fix1 fixV emptyB keepO_nil keepO_cons roundC_normal roundC_exit roundC_ret roundC_goto sweep_eq sweepD rnm pickR pickW rootsB ptrT renT ptrFn renFn ptrB_flat ptrB_non renB_flat renB_non plainS_some drawS_some fpsOk disj unord range' dropTo enumT undef wrap_i64_id Value.cells mkCells ptrTo scal cellsAt rdN endS_ret resultsA Option.bind_some tupV finish reachN dep ptrL_eq ptrL renL_eq renL ptrV_bool ptrV_int ptrV_string ptrV_nilFunc ptrV_nilIface ptrV_nilPtr ptrV_ptr ptrV_nilSl ptrV_sl ptrV_iface ptrV_agg ptrV_tuple ptrV_func renV_bool renV_int renV_string renV_nilFunc renV_nilIface renV_nilPtr renV_ptr renV_nilSl renV_sl renV_iface renV_agg renV_tuple renV_func gotoS_goto gotoS_normal gotoS_exit gotoS_ret skip_seq sliceE bnd bndHi intOf optOpd keepT_nil keepT_cons keepC_t keepC_f lk_nil lk_cons lkC_t lkC_f has_nil has_cons hasC_t hasC_f rep_nil rep_cons repC_t repC_f put_eq putC_t putC_f mem_nil mem_cons memC_t memC_f idx_nil idx_cons idxC_t idxC_f reach_nil reach_cons reachC_t reachC_f
attribute [local simp] n88_1s n88_3s n88_5s n88_6s n88_4s n88_2s n88_0s Try.f88
/-- a sheet with its steps -/
abbrev ptV (r f : Int) (b off n c b2 off2 m c2 : Nat) : Value := .agg #[iv r, iv f, .slice (some ⟨b, off, none⟩) n c, .slice (some ⟨b2, off2, none⟩) m c2]
abbrev stV (b off m c : Nat) : Value := .slice (some ⟨b, off, none⟩) m c
section
variable (r f : Int) (b1 off n c b2 off2 m c2 : Nat) {cs cs2 : List Value} {own own2 : Bool} {st : Nat → Int} {h : List Blk}
theorem k104 (hb : h[b2]? = some (.cells cs2 1 true own2)) (hc : IvC cs2 off2 m st) (ha : Asc m st) (hm : m ≤ 1000) (x : Int) : ∃ q, callH LL 104 [stV b2 off2 m c2, iv x] h = some ⟨.tuple #[iv (partS m st x), .bool q], h, [b2], []⟩ := by
  obtain ⟨q, hq⟩ := c104 off2 m c2 cs2 own2 st hc ha x hm
  exact ⟨q, callH_1 rfl hb noIdB_flat (args' := [stV 0 off2 m c2, iv x]) (by simp [renV, dep, optAll, idx, nbeq]) hq fun _ => rfl⟩
theorem k88 (hb : h[b1]? = some (.cells cs 3 true own)) (hb2 : h[b2]? = some (.cells cs2 1 true own2)) (hne : b1 ≠ b2) (hc : IvC cs2 off2 m st) (ha : Asc m st) (hm : m ≤ 1000) (x : Int) :
    callH LL 88 [ptV r f b1 off n c b2 off2 m c2, iv x] h = some ⟨iv (partS m st x), h, [b1, b2], []⟩ := by
  obtain ⟨q, hq⟩ := k104 1 off2 m c2 (h := [.cells cs 3 true own, .cells cs2 1 true own2, .cells [iv r, iv f, .slice (some ⟨0, off, none⟩) n c, .slice (some ⟨1, off2, none⟩) m c2] 1 false true]) (cs2 := cs2) rfl hc ha hm x
  refine callH_2 rfl hb hb2 hne noIdB_flat noIdB_flat (args' := [ptV r f 0 off n c 1 off2 m c2, iv x]) (by simp [renV, dep, optAll, idx, nbeq, hne, hne.symm]) (go (by decide) ?_) fun _ => rfl
  rw [run88 _ _ _ (by simp)]
  simp (maxSteps := 1000000) (disch := first | omega | decide | assumption | simp [scal]) [o_fieldAddr fa_115_1 (by decide), loadA_eq ia_25, hq]
end
end Go.Proofs.Ytiafgimgcbmgaaa.bl
namespace Go.Proofs.Ytiafgimgcbmgaaa.bl
open Go.GE
set_option linter.unusedVariables false
set_option linter.unusedSimpArgs false
set_option maxRecDepth 100000
set_option maxHeartbeats 4000000
/-- a valid sheet -/
structure Sht (r f : Int) (n : Nat) (l : Nat → Ab) : Prop where
  dr : Dr r f
  n1 : 1 ≤ n
  n40 : n ≤ 40
  ok : ∀ i, i < n → OkA (l i)
  asc : ∀ i j, i < j → j < n → (l i).h < (l j).h
theorem chkL_zero {l : Nat → Ab} : ∀ k i last, chkL l k i last = 0 → (∀ j, i ≤ j → j < i + k → OkA (l j)) ∧ (0 < k → last < (l i).h) ∧ ∀ j, i ≤ j → j + 1 < i + k → (l j).h < (l (j + 1)).h := by
  intro k
  induction k with
  | zero => intro i last _; exact ⟨fun j h1 h2 => by omega, fun h => by omega, fun j h1 h2 => by omega⟩
  | succ k ih =>
    intro i last h
    unfold chkL at h
    split at h
    · simp at h
    · rename_i h1
      split at h
      · simp at h
      · rename_i h2
        obtain ⟨q1, q2, q3⟩ := ih (i + 1) _ h
        refine ⟨fun j a b => ?_, fun _ => by omega, fun j a b => ?_⟩
        · rcases Nat.eq_or_lt_of_le a with rfl | a
          · exact (okA_iff _).1 (by simpa using h1)
          · exact q1 j (by omega) (by omega)
        · rcases Nat.eq_or_lt_of_le a with rfl | a
          · exact q2 (by omega)
          · exact q3 j (by omega) (by omega)
theorem chkS_zero {r f : Int} {n : Nat} {l : Nat → Ab} (h : chkS r f n l = 0) : Sht r f n l := by
  unfold chkS at h
  split at h
  · simp at h
  · rename_i h1
    split at h
    · simp at h
    · rename_i h2
      split at h
      · simp at h
      · rename_i h3
        obtain ⟨q1, q2, q3⟩ := chkL_zero _ _ _ h
        simp only [Bool.and_eq_true, decide_eq_true_eq, Bool.not_eq_false] at h1
        refine ⟨⟨h1.1.1, h1.1.2, h1.2.1, h1.2.2⟩, by omega, by omega, fun i hi => q1 i (by omega) (by omega), ?_⟩
        intro i j hij
        induction j with
        | zero => omega
        | succ j ih =>
          intro hj
          have := q3 j (by omega) (by omega)
          rcases Nat.lt_succ_iff_lt_or_eq.1 hij with h | rfl
          · have := ih h (by omega); omega
          · exact this
/-- does one of some numbers serve? -/
def anyF (P : Nat → Bool) : Nat → Nat → Bool
  | 0, _ => false
  | k + 1, j => P j || anyF P k (j + 1)
theorem anyF_iff {P : Nat → Bool} : ∀ k j, anyF P k j = true ↔ ∃ i, j ≤ i ∧ i < j + k ∧ P i = true := by
  intro k
  induction k with
  | zero => intro j; simp [anyF]; intro i h1 h2; omega
  | succ k ih =>
    intro j
    simp only [anyF, Bool.or_eq_true, ih]
    constructor
    · rintro (h | ⟨i, h1, h2, h3⟩)
      · exact ⟨j, by omega, by omega, h⟩
      · exact ⟨i, by omega, by omega, h3⟩
    · rintro ⟨i, h1, h2, h3⟩
      rcases Nat.eq_or_lt_of_le h1 with rfl | h1
      · exact .inl h3
      · exact .inr ⟨i, by omega, by omega, h3⟩
/-- two absolutes of one part clash; one can be left out -/
def badB (r f : Int) (l : Nat → Ab) (m : Nat) (st : Nat → Int) (out : Int) (i k : Nat) : Bool :=
  (((!decide ((i : Int) = out)) && !decide ((k : Int) = out)) && decide (partS m st (l i).h = partS m st (l k).h)) && needS r f (l i) (l k)
def clashS (r f : Int) (n : Nat) (l : Nat → Ab) (m : Nat) (st : Nat → Int) (out : Int) : Bool := anyF (fun i => anyF (badB r f l m st out i) (n - (i + 1)) (i + 1)) n 0
end Go.Proofs.Ytiafgimgcbmgaaa.bl
namespace Go.Proofs.Ytiafgimgcbmgaaa.bl
open Go.GE
set_option linter.unusedVariables false
set_option linter.unusedSimpArgs false
set_option maxRecDepth 100000
set_option maxHeartbeats 4000000
attribute [local simp] runOps_nil runOps_cons runOpsF_nil runOpsF_cons fstS_some fstF_some opStep_eq want_none oStep_true oStep_false fin_pure fin_read fin_alloc fin_write storeB wrN cellV addWr o_move o_assign o_pick o_alloc o_box o_load o_store o_nilCheck o_bin o_un o_extract o_callV o_callB o_callI callV_f callV_y callV_fc o_makeFunc partsA Instr.fill builtin_len builtin_max2 bin_add bin_sub bin_mul bin_quo bin_rem bin_lss bin_leq bin_gtr bin_geq bin_eql bin_neq un_neg un_not bin_shr bin_shl wrap_u64_id opd opds optAll putO nbeq nblt constOk isC ops sub cl cr co bodyOf thenS_normal thenS_ret thenS_exit thenS_goto afterN_normal afterN_ret afterN_exit afterN_goto condS_true condS_false blockS_normal blockS_ret blockS_exit blockS_goto headS normS normK_eq fixS_nil fixS_cons fix1 fixV emptyB keepO_nil keepO_cons roundC_normal roundC_exit roundC_ret roundC_goto sweep_eq sweepD rnm pickR pickW rootsB ptrT renT ptrFn renFn ptrB_flat ptrB_non renB_flat renB_non plainS_some drawS_some fpsOk disj unord range' dropTo enumT undef wrap_i64_id Value.cells mkCells ptrTo scal cellsAt rdN endS_ret resultsA Option.bind_some tupV finish reachN dep ptrL_eq ptrL renL_eq renL ptrV_bool ptrV_int ptrV_string ptrV_nilFunc ptrV_nilIface ptrV_nilPtr ptrV_ptr ptrV_nilSl ptrV_sl ptrV_iface ptrV_agg ptrV_tuple ptrV_func renV_bool renV_int renV_string renV_nilFunc renV_nilIface renV_nilPtr renV_ptr renV_nilSl renV_sl renV_iface renV_agg renV_tuple renV_func gotoS_goto gotoS_normal gotoS_exit gotoS_ret skip_seq sliceE bnd bndHi intOf optOpd keepT_nil keepT_cons keepC_t keepC_f lk_nil lk_cons lkC_t lkC_f has_nil has_cons hasC_t hasC_f rep_nil rep_cons repC_t repC_f put_eq putC_t putC_f mem_nil mem_cons memC_t memC_f idx_nil idx_cons idxC_t idxC_f reach_nil reach_cons reachC_t reachC_f
attribute [local simp] n73_1s n73_4s n73_8s n73_11s n73_12s n73_10s n73_16s n73_18s n73_22s n73_23s n73_21s n73_26s n73_29s n73_30s n73_28s n73_31s n73_27s n73_25s n73_24s n73_19s n73_17s n73_15s n73_14s n73_32s n73_13s n73_9s n73_7s n73_6s n73_6g n73_5s n73_3s n73_34s n73_35s n73_33s n73_2s n73_0s Try.f73
abbrev abB (a : Ab) : Blk := .cells [iv a.h, iv a.lo, iv a.hi] 1 true true
abbrev c1 (n : Int) : Blk := .cells [iv n] 1 true true
abbrev b1 (x : Bool) : Blk := .cells [.bool x] 1 true true
abbrev ptB (r f : Int) (b off n c b2 off2 m c2 : Nat) : Blk := .cells [iv r, iv f, .slice (some ⟨b, off, none⟩) n c, .slice (some ⟨b2, off2, none⟩) m c2] 1 false true
abbrev pp (b : Nat) : Value := .pointer (some ⟨b, 0, none⟩)
noncomputable def lp73 (a b d e g : Nat) : ALoop := ⟨.ready, none, 73, [(6, pp a), (5, pp b), (2, pp d), (3, pp e), (4, pp g)], 47, #[24, 25], n73_21, n73_24⟩
/-- do two clash, as they are met in a round? -/
def hitB (r f out : Int) (a d : Ab) (i k : Nat) : Bool := ((decide ((i : Int) < k) && !decide ((i : Int) = out)) && !decide ((k : Int) = out)) && needS r f a d
section
variable (r f : Int) (off n c off2 m c2 : Nat) (cs cs2 : List Value) (own own2 : Bool) (out : Int)
theorem r73 (D : Dr r f) (a d : Ab) (A : OkA a) (B : OkA d) (i k : Nat) (res : Bool) :
    LL.rnd 0 [iv i, abV a] [.loop (lp73 1 2 3 6 7), abB d, c1 k, ptB r f 4 off n c 5 off2 m c2, .cells cs 3 true own, .cells cs2 1 true own2, c1 out, b1 res] =
      if hitB r f out a d i k then some ⟨.bool false, [], [(0, .loop { lp73 1 2 3 6 7 with state := .done, pending := some .ret }), (7, b1 false)]⟩
      else some ⟨.bool true, [], [(0, .loop (lp73 1 2 3 6 7))]⟩ := by
  have hk := fun bx1 bx2 bx3 bx4 bx => k58 r f 4 off n c (h := bx1 :: bx2 :: bx3 :: bx4 :: .cells cs 3 true own :: bx) (cs := cs) (own := own) D a A d B rfl
  obtain ⟨dh, dl, du⟩ := d
  obtain ⟨ah, al, au⟩ := a
  rw [show LL = L Try.prog (wk.wtab.keep kpT) from rfl, L_rnd_eq]
  have e1 : codeB Try.prog LL ⟨73, 47, 8, some 0⟩ n73_21 ⟨[(25, abV ⟨ah, al, au⟩), (24, iv i), (6, pp 1), (5, pp 2), (2, pp 3), (3, pp 6), (4, pp 7)], [.loop (lp73 1 2 3 6 7), abB ⟨dh, dl, du⟩, c1 k, ptB r f 4 off n c 5 off2 m c2, .cells cs 3 true own, .cells cs2 1 true own2, c1 out, b1 res], []⟩ =
      some (.normal, ⟨[(8, pp 8), (7, iv i), (25, abV ⟨ah, al, au⟩), (24, iv i), (6, pp 1), (5, pp 2), (2, pp 3), (3, pp 6), (4, pp 7)], [.loop (lp73 1 2 3 6 7), abB ⟨dh, dl, du⟩, c1 k, ptB r f 4 off n c 5 off2 m c2, .cells cs 3 true own, .cells cs2 1 true own2, c1 out, b1 res, abB ⟨ah, al, au⟩], []⟩) := by
    simp (maxSteps := 1000000) (disch := first | omega | decide | assumption | simp [scal]) [za_4, o_fieldAddr fa_115_0 (by decide), o_fieldAddr fa_24_2 (by decide), loadA_eq ia_22, lenA_sl lk_22, o_indexAddrS es_22, loadA_eq ia_59, za_3, za_59, sz_3, sz_59, loadA_eq ia_115, o_fieldAddr fa_59_0 (by decide), loadA_eq ia_3, loadA_eq ia_24, sz_4, loadA_eq ia_4, want_some q73_26g3, want_some q73_26g8, want_some q73_26g13]
  have e2 : codeB Try.prog LL ⟨73, 47, 8, some 0⟩ n73_24 ⟨[(8, pp 8), (7, iv i), (25, abV ⟨ah, al, au⟩), (24, iv i), (6, pp 1), (5, pp 2), (2, pp 3), (3, pp 6), (4, pp 7)], [.loop { lp73 1 2 3 6 7 with state := .busy }, abB ⟨dh, dl, du⟩, c1 k, ptB r f 4 off n c 5 off2 m c2, .cells cs 3 true own, .cells cs2 1 true own2, c1 out, b1 res, abB ⟨ah, al, au⟩], [0]⟩ =
      if hitB r f out ⟨ah, al, au⟩ ⟨dh, dl, du⟩ i k then some (.ret, ⟨[(4, pp 7)], [.loop { lp73 1 2 3 6 7 with state := .busy }, abB ⟨dh, dl, du⟩, c1 k, ptB r f 4 off n c 5 off2 m c2, .cells cs 3 true own, .cells cs2 1 true own2, c1 out, b1 false], [0, 7]⟩)
      else some (.normal, ⟨[(8, pp 8), (7, iv i), (25, abV ⟨ah, al, au⟩), (24, iv i), (6, pp 1), (5, pp 2), (2, pp 3), (3, pp 6), (4, pp 7)], [.loop { lp73 1 2 3 6 7 with state := .busy }, abB ⟨dh, dl, du⟩, c1 k, ptB r f 4 off n c 5 off2 m c2, .cells cs 3 true own, .cells cs2 1 true own2, c1 out, b1 res, abB ⟨ah, al, au⟩], [0]⟩) := by
    have hb : hitB r f out ⟨ah, al, au⟩ ⟨dh, dl, du⟩ i k = (((decide ((i : Int) < k) && !decide ((i : Int) = out)) && !decide ((k : Int) = out)) && needS r f ⟨ah, al, au⟩ ⟨dh, dl, du⟩) := rfl
    by_cases w0 : (i : Int) < k
    · by_cases w1 : (i : Int) = out
      · rw [decide_eq_true w0, decide_eq_true w1] at hb
        simp (maxSteps := 1000000) (disch := first | omega | decide | assumption | simp [scal]) [za_4, o_fieldAddr fa_115_0 (by decide), o_fieldAddr fa_24_2 (by decide), loadA_eq ia_22, lenA_sl lk_22, o_indexAddrS es_22, loadA_eq ia_59, za_3, za_59, sz_3, sz_59, loadA_eq ia_115, o_fieldAddr fa_59_0 (by decide), loadA_eq ia_3, loadA_eq ia_24, sz_4, loadA_eq ia_4, want_some q73_26g3, want_some q73_26g8, want_some q73_26g13, w0, eq_true w1, hb, lp73]
      by_cases w2 : (k : Int) = out
      · rw [decide_eq_true w0, decide_eq_false w1, decide_eq_true w2] at hb
        simp (maxSteps := 1000000) (disch := first | omega | decide | assumption | simp [scal]) [za_4, o_fieldAddr fa_115_0 (by decide), o_fieldAddr fa_24_2 (by decide), loadA_eq ia_22, lenA_sl lk_22, o_indexAddrS es_22, loadA_eq ia_59, za_3, za_59, sz_3, sz_59, loadA_eq ia_115, o_fieldAddr fa_59_0 (by decide), loadA_eq ia_3, loadA_eq ia_24, sz_4, loadA_eq ia_4, want_some q73_26g3, want_some q73_26g8, want_some q73_26g13, w0, w1, eq_true w2, hb, lp73]
      rcases Bool.eq_false_or_eq_true (needS r f ⟨ah, al, au⟩ ⟨dh, dl, du⟩) with w3 | w3
      · rw [decide_eq_true w0, decide_eq_false w1, decide_eq_false w2, w3] at hb
        rw [w3] at hk
        simp (maxSteps := 1000000) (disch := first | omega | decide | assumption | simp [scal]) [za_4, o_fieldAddr fa_115_0 (by decide), o_fieldAddr fa_24_2 (by decide), loadA_eq ia_22, lenA_sl lk_22, o_indexAddrS es_22, loadA_eq ia_59, za_3, za_59, sz_3, sz_59, loadA_eq ia_115, o_fieldAddr fa_59_0 (by decide), loadA_eq ia_3, loadA_eq ia_24, sz_4, loadA_eq ia_4, want_some q73_26g3, want_some q73_26g8, want_some q73_26g13, w0, w1, w2, w3, hk, hb, lp73, ins, ptrB, renB]
      · rw [decide_eq_true w0, decide_eq_false w1, decide_eq_false w2, w3] at hb
        rw [w3] at hk
        simp (maxSteps := 1000000) (disch := first | omega | decide | assumption | simp [scal]) [za_4, o_fieldAddr fa_115_0 (by decide), o_fieldAddr fa_24_2 (by decide), loadA_eq ia_22, lenA_sl lk_22, o_indexAddrS es_22, loadA_eq ia_59, za_3, za_59, sz_3, sz_59, loadA_eq ia_115, o_fieldAddr fa_59_0 (by decide), loadA_eq ia_3, loadA_eq ia_24, sz_4, loadA_eq ia_4, want_some q73_26g3, want_some q73_26g8, want_some q73_26g13, w0, w1, w2, w3, hk, hb, lp73]
    · rw [decide_eq_false w0] at hb
      simp (maxSteps := 1000000) (disch := first | omega | decide | assumption | simp [scal]) [za_4, o_fieldAddr fa_115_0 (by decide), o_fieldAddr fa_24_2 (by decide), loadA_eq ia_22, lenA_sl lk_22, o_indexAddrS es_22, loadA_eq ia_59, za_3, za_59, sz_3, sz_59, loadA_eq ia_115, o_fieldAddr fa_59_0 (by decide), loadA_eq ia_3, loadA_eq ia_24, sz_4, loadA_eq ia_4, want_some q73_26g3, want_some q73_26g8, want_some q73_26g13, w0, hb, lp73]
  rcases Bool.eq_false_or_eq_true (hitB r f out ⟨ah, al, au⟩ ⟨dh, dl, du⟩ i k) with w | w
  · rw [if_pos w] at e2 ⊢
    rw [rnd_out (lp := lp73 1 2 3 6 7) (l1 := lp73 1 2 3 6 7) (l2 := { lp73 1 2 3 6 7 with state := .busy }) rfl rfl rfl rfl rfl e1 rfl rfl e2 (by simp) rfl]
    simp (maxSteps := 1000000) (disch := first | omega | decide | assumption | simp [scal]) [ins, exCode, lp73, ptrB, renB]
  · rw [if_neg (by simp [w])] at e2 ⊢
    rw [rnd_step (lp := lp73 1 2 3 6 7) (l1 := lp73 1 2 3 6 7) (l2 := { lp73 1 2 3 6 7 with state := .busy }) rfl rfl rfl rfl rfl e1 rfl rfl e2 rfl]
    simp (maxSteps := 1000000) (disch := first | omega | decide | assumption | simp [scal]) [ins, lp73, ptrB, renB]
end
end Go.Proofs.Ytiafgimgcbmgaaa.bl
namespace Go.Proofs.Ytiafgimgcbmgaaa.bl
open Go.GE
set_option linter.unusedVariables false
set_option linter.unusedSimpArgs false
set_option maxRecDepth 100000
set_option maxHeartbeats 4000000
attribute [local simp] runOps_nil runOps_cons runOpsF_nil runOpsF_cons fstS_some fstF_some opStep_eq want_none oStep_true oStep_false fin_pure fin_read fin_alloc fin_write storeB wrN cellV addWr o_move o_assign o_pick o_alloc o_box o_load o_store o_nilCheck o_bin o_un o_extract o_callV o_callB o_callI callV_f callV_y callV_fc o_makeFunc partsA Instr.fill builtin_len builtin_max2 bin_add bin_sub bin_mul bin_quo bin_rem bin_lss bin_leq bin_gtr bin_geq bin_eql bin_neq un_neg un_not bin_shr bin_shl wrap_u64_id opd opds optAll putO nbeq nblt constOk isC ops sub cl cr co bodyOf thenS_normal thenS_ret thenS_exit thenS_goto afterN_normal afterN_ret afterN_exit afterN_goto condS_true condS_false blockS_normal blockS_ret blockS_exit blockS_goto headS normS normK_eq fixS_nil fixS_cons fix1 fixV emptyB keepO_nil keepO_cons roundC_normal roundC_exit roundC_ret roundC_goto sweep_eq sweepD rnm pickR pickW rootsB ptrT renT ptrFn renFn ptrB_flat ptrB_non renB_flat renB_non plainS_some drawS_some fpsOk disj unord range' dropTo enumT undef wrap_i64_id Value.cells mkCells ptrTo scal cellsAt rdN endS_ret resultsA Option.bind_some tupV finish reachN dep ptrL_eq ptrL renL_eq renL ptrV_bool ptrV_int ptrV_string ptrV_nilFunc ptrV_nilIface ptrV_nilPtr ptrV_ptr ptrV_nilSl ptrV_sl ptrV_iface ptrV_agg ptrV_tuple ptrV_func renV_bool renV_int renV_string renV_nilFunc renV_nilIface renV_nilPtr renV_ptr renV_nilSl renV_sl renV_iface renV_agg renV_tuple renV_func gotoS_goto gotoS_normal gotoS_exit gotoS_ret skip_seq sliceE bnd bndHi intOf optOpd keepT_nil keepT_cons keepC_t keepC_f lk_nil lk_cons lkC_t lkC_f has_nil has_cons hasC_t hasC_f rep_nil rep_cons repC_t repC_f put_eq putC_t putC_f mem_nil mem_cons memC_t memC_f idx_nil idx_cons idxC_t idxC_f reach_nil reach_cons reachC_t reachC_f
attribute [local simp] n103_1s n103_5s n103_8s n103_9s n103_7s n103_13s n103_15s n103_17s n103_18s n103_16s n103_14s n103_12s n103_11s n103_19s n103_10s n103_6s n103_4s n103_3s n103_3g n103_2s n103_0s Try.f103
section
variable (r f : Int) (off n c off2 m c2 : Nat) (cs cs2 : List Value) (own own2 : Bool) (out : Int)
noncomputable def lpD (a b d e g : Nat) : ALoop := { lp73 a b d e g with state := .done, pending := some .ret }
theorem y103 (D : Dr r f) (a d : Ab) (A : OkA a) (B : OkA d) (i k : Nat) (res : Bool) (rest : List Blk) :
    yieldH LL 0 [iv i, abV a] (.loop (lp73 1 2 3 6 7) :: abB d :: c1 k :: ptB r f 4 off n c 5 off2 m c2 :: .cells cs 3 true own :: .cells cs2 1 true own2 :: c1 out :: b1 res :: rest) =
      if hitB r f out a d i k then some ⟨.bool false, .loop (lpD 1 2 3 6 7) :: abB d :: c1 k :: ptB r f 4 off n c 5 off2 m c2 :: .cells cs 3 true own :: .cells cs2 1 true own2 :: c1 out :: b1 false :: rest, [0, 1, 2, 3, 4, 5, 6, 7], [0, 7]⟩
      else some ⟨.bool true, .loop (lp73 1 2 3 6 7) :: abB d :: c1 k :: ptB r f 4 off n c 5 off2 m c2 :: .cells cs 3 true own :: .cells cs2 1 true own2 :: c1 out :: b1 res :: rest, [0, 1, 2, 3, 4, 5, 6, 7], [0]⟩ := by
  have e := r73 r f off n c off2 m c2 cs cs2 own own2 out D a d A B i k res
  have hm : ∀ q : Nat, 20 < q → reach (.loop (lp73 1 2 3 6 7) :: abB d :: c1 k :: ptB r f 4 off n c 5 off2 m c2 :: .cells cs 3 true own :: .cells cs2 1 true own2 :: c1 out :: b1 res :: rest) 0 q [0] [] = [0, 1, 2, 3, 4, 5, 6, 7] := by
    intro q hq
    obtain ⟨q, rfl⟩ : ∃ j, q = j + 20 := ⟨q - 20, by omega⟩
    simp [reach, mem, nblt, nbeq, ptrB, lp73, ptrT, ptrV_ptr, ptrV_sl, ptrV_int, dep]
  unfold yieldH
  have hp : 0 :: ([iv i, abV a] : List Value).flatMap (ptrV dep) = [0] := rfl
  have hr : ∀ g, optAll (renV g dep) [iv i, abV a] = some [iv i, abV a] := fun _ => rfl
  simp only [hp, hm reachN (by decide), hr]
  rcases Bool.eq_false_or_eq_true (hitB r f out a d i k) with w | w
  · rw [if_pos w] at e ⊢
    simp only [lp73, lpD] at e ⊢
    simp [optAll, renB, renT, renV_ptr, renV_sl, renV_int, dep, idx, nbeq, e, mergeB, renV_bool, nblt]
  · rw [if_neg (by simp [w])] at e ⊢
    simp only [lp73] at e ⊢
    simp [optAll, renB, renT, renV_ptr, renV_sl, renV_int, dep, idx, nbeq, e, mergeB, renV_bool, nblt]
variable (l : Nat → Ab) (st : Nat → Int)
theorem l103 (S : Sht r f n l) (hc : AbC cs off n l) (hc2 : IvC cs2 off2 m st) (ha : Asc m st) (hm : m ≤ 1000) (d : Ab) (B : OkA d) (k pt : Nat) : ∀ q i : Nat, i + q = n → ∀ W, (W = [] ∨ W = [0]) →
    (anyF (fun i => decide (partS m st (l i).h = pt) && hitB r f out (l i) d i k) q i = true →
      lpB Try.prog LL ⟨103, 29, 10, none⟩ n103_3 n103_4 ⟨[(0, .func (.yield 0) #[] #[]), (1, pp 8), (2, pp 9), (8, stV 4 off n c), (9, iv n), (10, iv i)], [.loop (lp73 1 2 3 6 7), abB d, c1 k, ptB r f 4 off n c 5 off2 m c2, .cells cs 3 true own, .cells cs2 1 true own2, c1 out, b1 false, ptB r f 4 off n c 5 off2 m c2, c1 pt], W⟩ =
        some (.ret, ⟨[], [.loop (lpD 1 2 3 6 7), abB d, c1 k, ptB r f 4 off n c 5 off2 m c2, .cells cs 3 true own, .cells cs2 1 true own2, c1 out, b1 false, ptB r f 4 off n c 5 off2 m c2, c1 pt], [0, 7]⟩)) ∧
    (anyF (fun i => decide (partS m st (l i).h = pt) && hitB r f out (l i) d i k) q i = false → ∃ W', (W' = [] ∨ W' = [0]) ∧
      lpB Try.prog LL ⟨103, 29, 10, none⟩ n103_3 n103_4 ⟨[(0, .func (.yield 0) #[] #[]), (1, pp 8), (2, pp 9), (8, stV 4 off n c), (9, iv n), (10, iv i)], [.loop (lp73 1 2 3 6 7), abB d, c1 k, ptB r f 4 off n c 5 off2 m c2, .cells cs 3 true own, .cells cs2 1 true own2, c1 out, b1 false, ptB r f 4 off n c 5 off2 m c2, c1 pt], W⟩ =
        some (.exit 0, ⟨[], [.loop (lp73 1 2 3 6 7), abB d, c1 k, ptB r f 4 off n c 5 off2 m c2, .cells cs 3 true own, .cells cs2 1 true own2, c1 out, b1 false, ptB r f 4 off n c 5 off2 m c2, c1 pt], W'⟩)) := by
  have hn := S.n40
  intro q
  induction q with
  | zero =>
    intro i hi W hW
    obtain rfl : i = n := by omega
    refine ⟨fun h => by simp [anyF] at h, fun _ => ⟨W, hW, ?_⟩⟩
    rw [lpB_eq]
    rcases hW with rfl | rfl <;>
    simp (maxSteps := 1000000) (disch := first | omega | decide | assumption | simp [scal]) [o_fieldAddr fa_115_0 (by decide), o_fieldAddr fa_24_2 (by decide), loadA_eq ia_22, lenA_sl lk_22, o_indexAddrS es_22, loadA_eq ia_59, za_59, sz_59, loadA_eq ia_115, o_fieldAddr fa_59_0 (by decide), loadA_eq ia_3, want_some q103_15g6, lp73, ptrB, renB]
  | succ q ih =>
    intro i hi W hW
    have e1 : i < n := by omega
    obtain ⟨p2, p3, p4⟩ := hc i e1
    have a1 := fun bx1 bx2 bx3 bx4 bx => k88 r f 4 off n c 5 off2 m c2 (h := bx1 :: bx2 :: bx3 :: bx4 :: .cells cs 3 true own :: .cells cs2 1 true own2 :: bx) (cs := cs) (cs2 := cs2) rfl rfl (by decide) hc2 ha hm (l i).h
    have a2 := y103 r f off n c off2 m c2 cs cs2 own own2 out S.dr (l i) d (S.ok i e1) B i k false
    rw [lpB_eq]
    simp only [anyF]
    by_cases w1 : partS m st (l i).h = pt
    · have w1' : (partS m st (l i).h : Int) = pt := by rw [w1]
      rcases Bool.eq_false_or_eq_true (hitB r f out (l i) d i k) with w2 | w2
      · simp only [w2, if_true] at a2
        refine ⟨fun _ => ?_, fun h => ?_⟩
        · simp only [lp73, lpD] at a2 ⊢
          rcases hW with rfl | rfl <;>
          simp (maxSteps := 1000000) (disch := first | omega | decide | assumption | simp [scal]) [o_fieldAddr fa_115_0 (by decide), o_fieldAddr fa_24_2 (by decide), loadA_eq ia_22, lenA_sl lk_22, o_indexAddrS es_22, loadA_eq ia_59, za_59, sz_59, loadA_eq ia_115, o_fieldAddr fa_59_0 (by decide), loadA_eq ia_3, want_some q103_15g6, ptrB, renB, e1, p2, p3, p4, a1, a2, eq_true w1', addWr, ins]
        · simp [w1, w2] at h
      · simp only [w2, Bool.false_eq_true, if_false] at a2
        have this := ih (i + 1) (by omega) [0] (.inr rfl)
        simp only [cast1] at this
        refine ⟨fun h => ?_, fun h => ?_⟩
        · have this := this.1 (by simpa [w2] using h)
          simp only [lp73, lpD] at this a2 ⊢
          rcases hW with rfl | rfl <;>
          simp (maxSteps := 1000000) (disch := first | omega | decide | assumption | simp [scal]) [o_fieldAddr fa_115_0 (by decide), o_fieldAddr fa_24_2 (by decide), loadA_eq ia_22, lenA_sl lk_22, o_indexAddrS es_22, loadA_eq ia_59, za_59, sz_59, loadA_eq ia_115, o_fieldAddr fa_59_0 (by decide), loadA_eq ia_3, want_some q103_15g6, lp73, lpD, ptrB, renB, e1, p2, p3, p4, a1, a2, eq_true w1', addWr, ins, this]
        · obtain ⟨W', hW', this⟩ := this.2 (by simpa [w2] using h)
          refine ⟨W', hW', ?_⟩
          simp only [lp73] at this a2 ⊢
          rcases hW with rfl | rfl <;>
          simp (maxSteps := 1000000) (disch := first | omega | decide | assumption | simp [scal]) [o_fieldAddr fa_115_0 (by decide), o_fieldAddr fa_24_2 (by decide), loadA_eq ia_22, lenA_sl lk_22, o_indexAddrS es_22, loadA_eq ia_59, za_59, sz_59, loadA_eq ia_115, o_fieldAddr fa_59_0 (by decide), loadA_eq ia_3, want_some q103_15g6, lp73, lpD, ptrB, renB, e1, p2, p3, p4, a1, a2, eq_true w1', addWr, ins, this]
    · have w1' : ¬ (partS m st (l i).h : Int) = pt := by omega
      have this := ih (i + 1) (by omega) W hW
      simp only [cast1] at this
      refine ⟨fun h => ?_, fun h => ?_⟩
      · have this := this.1 (by simpa [w1] using h)
        simp only [lp73, lpD] at this ⊢
        rcases hW with rfl | rfl <;>
        simp (maxSteps := 1000000) (disch := first | omega | decide | assumption | simp [scal]) [o_fieldAddr fa_115_0 (by decide), o_fieldAddr fa_24_2 (by decide), loadA_eq ia_22, lenA_sl lk_22, o_indexAddrS es_22, loadA_eq ia_59, za_59, sz_59, loadA_eq ia_115, o_fieldAddr fa_59_0 (by decide), loadA_eq ia_3, want_some q103_15g6, lp73, lpD, ptrB, renB, e1, p2, p3, p4, a1, w1', addWr, ins, this]
      · obtain ⟨W', hW', this⟩ := this.2 (by simpa [w1] using h)
        refine ⟨W', hW', ?_⟩
        simp only [lp73] at this ⊢
        rcases hW with rfl | rfl <;>
        simp (maxSteps := 1000000) (disch := first | omega | decide | assumption | simp [scal]) [o_fieldAddr fa_115_0 (by decide), o_fieldAddr fa_24_2 (by decide), loadA_eq ia_22, lenA_sl lk_22, o_indexAddrS es_22, loadA_eq ia_59, za_59, sz_59, loadA_eq ia_115, o_fieldAddr fa_59_0 (by decide), loadA_eq ia_3, want_some q103_15g6, lp73, lpD, ptrB, renB, e1, p2, p3, p4, a1, w1', addWr, ins, this]
end
end Go.Proofs.Ytiafgimgcbmgaaa.bl
namespace Go.Proofs.Ytiafgimgcbmgaaa.bl
open Go.GE
set_option linter.unusedVariables false
set_option linter.unusedSimpArgs false
set_option maxRecDepth 100000
set_option maxHeartbeats 4000000
attribute [local simp] runOps_nil runOps_cons runOpsF_nil runOpsF_cons fstS_some fstF_some opStep_eq want_none oStep_true oStep_false fin_pure fin_read fin_alloc fin_write storeB wrN cellV addWr o_move o_assign o_pick o_alloc o_box o_load o_store o_nilCheck o_bin o_un o_extract o_callV o_callB o_callI callV_f callV_y callV_fc o_makeFunc partsA Instr.fill builtin_len builtin_max2 bin_add bin_sub bin_mul bin_quo bin_rem bin_lss bin_leq bin_gtr bin_geq bin_eql bin_neq un_neg un_not bin_shr bin_shl wrap_u64_id opd opds optAll putO nbeq nblt constOk isC ops sub cl cr co bodyOf thenS_normal thenS_ret thenS_exit thenS_goto afterN_normal afterN_ret afterN_exit afterN_goto condS_true condS_false blockS_normal blockS_ret blockS_exit blockS_goto headS normS normK_eq fixS_nil fixS_cons fix1 fixV emptyB keepO_nil keepO_cons roundC_normal roundC_exit roundC_ret roundC_goto sweep_eq sweepD rnm pickR pickW rootsB ptrT renT ptrFn renFn ptrB_flat ptrB_non renB_flat renB_non plainS_some drawS_some fpsOk disj unord range' dropTo enumT undef wrap_i64_id Value.cells mkCells ptrTo scal cellsAt rdN endS_ret resultsA Option.bind_some tupV finish reachN dep ptrL_eq ptrL renL_eq renL ptrV_bool ptrV_int ptrV_string ptrV_nilFunc ptrV_nilIface ptrV_nilPtr ptrV_ptr ptrV_nilSl ptrV_sl ptrV_iface ptrV_agg ptrV_tuple ptrV_func renV_bool renV_int renV_string renV_nilFunc renV_nilIface renV_nilPtr renV_ptr renV_nilSl renV_sl renV_iface renV_agg renV_tuple renV_func gotoS_goto gotoS_normal gotoS_exit gotoS_ret skip_seq sliceE bnd bndHi intOf optOpd keepT_nil keepT_cons keepC_t keepC_f lk_nil lk_cons lkC_t lkC_f has_nil has_cons hasC_t hasC_f rep_nil rep_cons repC_t repC_f put_eq putC_t putC_f mem_nil mem_cons memC_t memC_f idx_nil idx_cons idxC_t idxC_f reach_nil reach_cons reachC_t reachC_f
attribute [local simp] n103_1s n103_5s n103_8s n103_9s n103_7s n103_13s n103_15s n103_17s n103_18s n103_16s n103_14s n103_12s n103_11s n103_19s n103_10s n103_6s n103_4s n103_3s n103_3g n103_2s n103_0s Try.f103 n87_1s n87_3s n87_4s n87_2s n87_0s Try.f87
section
variable (r f : Int) (off n c off2 m c2 : Nat) (cs cs2 : List Value) (own own2 : Bool) (out : Int) (l : Nat → Ab) (st : Nat → Int)
theorem c103 (S : Sht r f n l) (hc : AbC cs off n l) (hc2 : IvC cs2 off2 m st) (ha : Asc m st) (hm : m ≤ 1000) (d : Ab) (B : OkA d) (k pt : Nat) :
    (anyF (fun i => decide (partS m st (l i).h = pt) && hitB r f out (l i) d i k) n 0 = true →
      LL.run 103 [.func (.yield 0) #[] #[], pp 8, pp 9] [.loop (lp73 1 2 3 6 7), abB d, c1 k, ptB r f 4 off n c 5 off2 m c2, .cells cs 3 true own, .cells cs2 1 true own2, c1 out, b1 false, ptB r f 4 off n c 5 off2 m c2, c1 pt] =
        some ⟨.tuple #[], [], [(0, .loop (lpD 1 2 3 6 7)), (7, b1 false)]⟩) ∧
    (anyF (fun i => decide (partS m st (l i).h = pt) && hitB r f out (l i) d i k) n 0 = false → ∃ ws, (ws = [] ∨ ws = [(0, .loop (lp73 1 2 3 6 7))]) ∧
      LL.run 103 [.func (.yield 0) #[] #[], pp 8, pp 9] [.loop (lp73 1 2 3 6 7), abB d, c1 k, ptB r f 4 off n c 5 off2 m c2, .cells cs 3 true own, .cells cs2 1 true own2, c1 out, b1 false, ptB r f 4 off n c 5 off2 m c2, c1 pt] =
        some ⟨.tuple #[], [], ws⟩) := by
  have this := l103 r f off n c off2 m c2 cs cs2 own own2 out l st S hc hc2 ha hm d B k pt n 0 (by omega) [] (.inl rfl)
  simp only [Int.natCast_zero] at this
  refine ⟨fun h => go (by decide) ?_, fun h => ?_⟩
  · have this := this.1 h
    rw [run103 _ _ _ (by simp)]
    simp only [lp73, lpD] at this ⊢
    simp (maxSteps := 1000000) (disch := first | omega | decide | assumption | simp [scal]) [o_fieldAddr fa_115_0 (by decide), o_fieldAddr fa_24_2 (by decide), loadA_eq ia_22, lenA_sl lk_22, o_indexAddrS es_22, loadA_eq ia_59, za_59, sz_59, loadA_eq ia_115, o_fieldAddr fa_59_0 (by decide), loadA_eq ia_3, want_some q103_15g6, ptrB, renB, this]
  · obtain ⟨W, hW, this⟩ := this.2 h
    rcases hW with rfl | rfl
    · refine ⟨[], .inl rfl, go (by decide) ?_⟩
      rw [run103 _ _ _ (by simp)]
      simp only [lp73] at this ⊢
      simp (maxSteps := 1000000) (disch := first | omega | decide | assumption | simp [scal]) [o_fieldAddr fa_115_0 (by decide), o_fieldAddr fa_24_2 (by decide), loadA_eq ia_22, lenA_sl lk_22, o_indexAddrS es_22, loadA_eq ia_59, za_59, sz_59, loadA_eq ia_115, o_fieldAddr fa_59_0 (by decide), loadA_eq ia_3, want_some q103_15g6, ptrB, renB, this, endS_normal]
    · refine ⟨_, .inr rfl, go (by decide) ?_⟩
      rw [run103 _ _ _ (by simp)]
      simp only [lp73] at this ⊢
      simp (maxSteps := 1000000) (disch := first | omega | decide | assumption | simp [scal]) [o_fieldAddr fa_115_0 (by decide), o_fieldAddr fa_24_2 (by decide), loadA_eq ia_22, lenA_sl lk_22, o_indexAddrS es_22, loadA_eq ia_59, za_59, sz_59, loadA_eq ia_115, o_fieldAddr fa_59_0 (by decide), loadA_eq ia_3, want_some q103_15g6, ptrB, renB, this, endS_normal]
theorem k87 (pt : Nat) (rest : List Blk) : callH LL 87 [ptV r f 0 off n c 1 off2 m c2, iv pt] (.cells cs 3 true own :: .cells cs2 1 true own2 :: rest) =
    some ⟨.func (.func 103) #[] #[pp (rest.length + 2), pp (rest.length + 3)], .cells cs 3 true own :: .cells cs2 1 true own2 :: (rest ++ [ptB r f 0 off n c 1 off2 m c2, c1 pt]), [0, 1], []⟩ := by
  have e : LL.run 87 [ptV r f 0 off n c 1 off2 m c2, iv pt] [.cells cs 3 true own, .cells cs2 1 true own2] = some ⟨.func (.func 103) #[] #[pp 2, pp 3], [ptB r f 0 off n c 1 off2 m c2, c1 pt], []⟩ := by
    refine go (by decide) ?_
    rw [run87 _ _ _ (by simp)]
    simp (maxSteps := 1000000) (disch := first | omega | decide | assumption | simp [scal])
  refine callH_of (by intro _; first | trivial | rfl) ?_ (by simp)
  unfold callH0
  have hp : ([ptV r f 0 off n c 1 off2 m c2, iv pt] : List Value).flatMap (ptrV dep) = [0, 1] := rfl
  have hr : optAll (renV (idx [0, 1]) dep) [ptV r f 0 off n c 1 off2 m c2, iv pt] = some [ptV r f 0 off n c 1 off2 m c2, iv pt] := rfl
  rw [hp, reach_two (h := .cells cs 3 true own :: .cells cs2 1 true own2 :: rest) rfl rfl (by decide) rfl rfl (by decide)]
  simp only [hr]
  simp [optAll, renB, e, mergeB, renV_func, renFn, renL, renV_ptr, renL_eq, renV_int, renV_sl, dep, nblt]
end
end Go.Proofs.Ytiafgimgcbmgaaa.bl
namespace Go.Proofs.Ytiafgimgcbmgaaa.bl
open Go.GE
set_option linter.unusedVariables false
set_option linter.unusedSimpArgs false
set_option maxRecDepth 100000
set_option maxHeartbeats 4000000
attribute [local simp] runOps_nil runOps_cons runOpsF_nil runOpsF_cons fstS_some fstF_some opStep_eq want_none oStep_true oStep_false fin_pure fin_read fin_alloc fin_write storeB wrN cellV addWr o_move o_assign o_pick o_alloc o_box o_load o_store o_nilCheck o_bin o_un o_extract o_callV o_callB o_callI callV_f callV_y callV_fc o_makeFunc partsA Instr.fill builtin_len builtin_max2 bin_add bin_sub bin_mul bin_quo bin_rem bin_lss bin_leq bin_gtr bin_geq bin_eql bin_neq un_neg un_not bin_shr bin_shl wrap_u64_id opd opds optAll putO nbeq nblt constOk isC ops sub cl cr co bodyOf thenS_normal thenS_ret thenS_exit thenS_goto afterN_normal afterN_ret afterN_exit afterN_goto condS_true condS_false blockS_normal blockS_ret blockS_exit blockS_goto headS normS normK_eq fixS_nil fixS_cons fix1 fixV emptyB keepO_nil keepO_cons roundC_normal roundC_exit roundC_ret roundC_goto sweep_eq sweepD rnm pickR pickW rootsB ptrT renT ptrFn renFn ptrB_flat ptrB_non renB_flat renB_non plainS_some drawS_some fpsOk disj unord range' dropTo enumT undef wrap_i64_id Value.cells mkCells ptrTo scal cellsAt rdN endS_ret resultsA Option.bind_some tupV finish reachN dep ptrL_eq ptrL renL_eq renL ptrV_bool ptrV_int ptrV_string ptrV_nilFunc ptrV_nilIface ptrV_nilPtr ptrV_ptr ptrV_nilSl ptrV_sl ptrV_iface ptrV_agg ptrV_tuple ptrV_func renV_bool renV_int renV_string renV_nilFunc renV_nilIface renV_nilPtr renV_ptr renV_nilSl renV_sl renV_iface renV_agg renV_tuple renV_func gotoS_goto gotoS_normal gotoS_exit gotoS_ret skip_seq sliceE bnd bndHi intOf optOpd keepT_nil keepT_cons keepC_t keepC_f lk_nil lk_cons lkC_t lkC_f has_nil has_cons hasC_t hasC_f rep_nil rep_cons repC_t repC_f put_eq putC_t putC_f mem_nil mem_cons memC_t memC_f idx_nil idx_cons idxC_t idxC_f reach_nil reach_cons reachC_t reachC_f
attribute [local simp] n73_1s n73_4s n73_8s n73_11s n73_12s n73_10s n73_16s n73_18s n73_22s n73_23s n73_21s n73_26s n73_29s n73_30s n73_28s n73_31s n73_27s n73_25s n73_24s n73_19s n73_17s n73_15s n73_14s n73_32s n73_13s n73_9s n73_7s n73_6s n73_6g n73_5s n73_3s n73_34s n73_35s n73_33s n73_2s n73_0s Try.f73
/-- is there one that clashes with the k-th, as the program looks for it? -/
def rowB (r f out : Int) (l : Nat → Ab) (n m : Nat) (st : Nat → Int) (k : Nat) : Bool := anyF (fun i => decide (partS m st (l i).h = partS m st (l k).h) && hitB r f out (l i) (l k) i k) n 0
section
variable (r f : Int) (off n c off2 m c2 : Nat) (cs cs2 : List Value) (own own2 : Bool) (out : Int) (l : Nat → Ab) (st : Nat → Int)
theorem h103 (S : Sht r f n l) (hc : AbC cs off n l) (hc2 : IvC cs2 off2 m st) (ha : Asc m st) (hm : m ≤ 1000) (k : Nat) (hk : k < n) :
    (rowB r f out l n m st k = true →
      callH LL 103 [.func (.yield 9) #[] #[], pp 7, pp 8] [.cells cs 3 true own, .cells cs2 1 true own2, ptB r f 0 off n c 1 off2 m c2, c1 out, b1 false, c1 k, abB (l k), ptB r f 0 off n c 1 off2 m c2, c1 (partS m st (l k).h), .loop (lp73 6 5 2 3 4)] =
        some ⟨.tuple #[], [.cells cs 3 true own, .cells cs2 1 true own2, ptB r f 0 off n c 1 off2 m c2, c1 out, b1 false, c1 k, abB (l k), ptB r f 0 off n c 1 off2 m c2, c1 (partS m st (l k).h), .loop (lpD 6 5 2 3 4)], [9, 6, 5, 2, 0, 1, 3, 4, 7, 8], [9, 4]⟩) ∧
    (rowB r f out l n m st k = false → ∃ W, (W = [] ∨ W = [9]) ∧
      callH LL 103 [.func (.yield 9) #[] #[], pp 7, pp 8] [.cells cs 3 true own, .cells cs2 1 true own2, ptB r f 0 off n c 1 off2 m c2, c1 out, b1 false, c1 k, abB (l k), ptB r f 0 off n c 1 off2 m c2, c1 (partS m st (l k).h), .loop (lp73 6 5 2 3 4)] =
        some ⟨.tuple #[], [.cells cs 3 true own, .cells cs2 1 true own2, ptB r f 0 off n c 1 off2 m c2, c1 out, b1 false, c1 k, abB (l k), ptB r f 0 off n c 1 off2 m c2, c1 (partS m st (l k).h), .loop (lp73 6 5 2 3 4)], [9, 6, 5, 2, 0, 1, 3, 4, 7, 8], W⟩) := by
  have e := c103 r f off n c off2 m c2 cs cs2 own own2 out l st S hc hc2 ha hm (l k) (S.ok k hk) k (partS m st (l k).h)
  have hm : ∀ q : Nat, 20 < q → reach [.cells cs 3 true own, .cells cs2 1 true own2, ptB r f 0 off n c 1 off2 m c2, c1 out, b1 false, c1 k, abB (l k), ptB r f 0 off n c 1 off2 m c2, c1 (partS m st (l k).h), .loop (lp73 6 5 2 3 4)] 0 q [9, 7, 8] [] = [9, 6, 5, 2, 0, 1, 3, 4, 7, 8] := by
    intro q hq
    obtain ⟨q, rfl⟩ : ∃ j, q = j + 20 := ⟨q - 20, by omega⟩
    simp [reach_cons, reachC_t, reachC_f, reach_nil, rootsB, GE.mem, nblt, nbeq, ptrB, lp73, ptrT, ptrV_ptr, ptrV_sl, ptrV_int, dep]
  have hp : ([.func (.yield 9) #[] #[], pp 7, pp 8] : List Value).flatMap (ptrV dep) = [9, 7, 8] := rfl
  have key : ∀ rr, LL.run 103 [.func (.yield 0) #[] #[], pp 8, pp 9] [.loop (lp73 1 2 3 6 7), abB (l k), c1 k, ptB r f 4 off n c 5 off2 m c2, .cells cs 3 true own, .cells cs2 1 true own2, c1 out, b1 false, ptB r f 4 off n c 5 off2 m c2, c1 (partS m st (l k).h)] = some rr →
      callH0 LL 103 [.func (.yield 9) #[] #[], pp 7, pp 8] [.cells cs 3 true own, .cells cs2 1 true own2, ptB r f 0 off n c 1 off2 m c2, c1 out, b1 false, c1 k, abB (l k), ptB r f 0 off n c 1 off2 m c2, c1 (partS m st (l k).h), .loop (lp73 6 5 2 3 4)] =
        mergeB [.cells cs 3 true own, .cells cs2 1 true own2, ptB r f 0 off n c 1 off2 m c2, c1 out, b1 false, c1 k, abB (l k), ptB r f 0 off n c 1 off2 m c2, c1 (partS m st (l k).h), .loop (lp73 6 5 2 3 4)] [9, 6, 5, 2, 0, 1, 3, 4, 7, 8] rr := by
    intro rr hrr
    unfold callH0
    simp only [hp, hm reachN (by decide)]
    simp only [lp73] at hrr ⊢
    simp [optAll, renV_func, renFn, renL, renV_ptr, dep, idx, nbeq, renB, renT, renL_eq, renV_int, renV_sl, hrr]
  refine ⟨fun h => ?_, fun h => ?_⟩
  · refine callH_of (by intro _; first | trivial | rfl) ?_ (by simp)
    rw [key _ (e.1 h)]
    simp only [lp73, lpD]
    simp [mergeB, renV_tuple, renL, dep, optAll, renB, renT, renV_ptr, nblt]
  · obtain ⟨ws, hws, e⟩ := e.2 h
    rcases hws with rfl | rfl
    · refine ⟨[], .inl rfl, callH_of (by intro _; first | trivial | rfl) ?_ (by simp)⟩
      rw [key _ e]
      simp only [lp73]
      simp [mergeB, renV_tuple, renL, dep, optAll, renB, renT, renV_ptr, nblt]
    · refine ⟨[9], .inr rfl, callH_of (by intro _; first | trivial | rfl) ?_ (by simp)⟩
      rw [key _ e]
      simp only [lp73]
      simp [mergeB, renV_tuple, renL, dep, optAll, renB, renT, renV_ptr, nblt]
theorem ex_ret {X : Res} {σ : Tm} {h : List Blk} (e : X = some (.ret, ⟨σ, h, []⟩)) (h1 : lk σ 4 = some (pp 4)) (h2 : h[4]? = some (b1 false)) : ∃ σ h, lk σ 4 = some (pp 4) ∧ h[4]? = some (b1 false) ∧ X = some (.ret, ⟨σ, h, []⟩) := ⟨σ, h, h1, h2, e⟩
theorem l73 (S : Sht r f n l) (hc : AbC cs off n l) (hc2 : IvC cs2 off2 m st) (ha : Asc m st) (hm : m ≤ 1000) : ∀ q k : Nat, k + q = n →
    (anyF (rowB r f out l n m st) q k = true → ∃ σ h, lk σ 4 = some (pp 4) ∧ h[4]? = some (b1 false) ∧
      lpB Try.prog LL ⟨73, 47, 2, none⟩ n73_6 n73_7 ⟨[(2, pp 2), (3, pp 3), (4, pp 4), (11, stV 0 off n c), (12, iv n), (13, iv k)], [.cells cs 3 true own, .cells cs2 1 true own2, ptB r f 0 off n c 1 off2 m c2, c1 out, b1 false], []⟩ = some (.ret, ⟨σ, h, []⟩)) ∧
    (anyF (rowB r f out l n m st) q k = false →
      lpB Try.prog LL ⟨73, 47, 2, none⟩ n73_6 n73_7 ⟨[(2, pp 2), (3, pp 3), (4, pp 4), (11, stV 0 off n c), (12, iv n), (13, iv k)], [.cells cs 3 true own, .cells cs2 1 true own2, ptB r f 0 off n c 1 off2 m c2, c1 out, b1 false], []⟩ =
        some (.exit 0, ⟨[(4, pp 2)], [.cells cs 3 true own, .cells cs2 1 true own2, b1 false], []⟩)) := by
  have hn := S.n40
  intro q
  induction q with
  | zero =>
    intro k hk
    obtain rfl : k = n := by omega
    refine ⟨fun h => by simp [anyF] at h, fun _ => ?_⟩
    rw [lpB_eq]
    simp (maxSteps := 1000000) (disch := first | omega | decide | assumption | simp [scal]) [za_4, o_fieldAddr fa_115_0 (by decide), o_fieldAddr fa_24_2 (by decide), loadA_eq ia_22, lenA_sl lk_22, o_indexAddrS es_22, loadA_eq ia_59, za_3, za_59, sz_3, sz_59, loadA_eq ia_115, o_fieldAddr fa_59_0 (by decide), loadA_eq ia_3, loadA_eq ia_24, sz_4, loadA_eq ia_4, want_some q73_26g3, want_some q73_26g8, want_some q73_26g13]
  | succ q ih =>
    intro k hk
    have e1 : k < n := by omega
    obtain ⟨p2, p3, p4⟩ := hc k e1
    have a1 := fun bx => k88 r f 0 off n c 1 off2 m c2 (h := .cells cs 3 true own :: .cells cs2 1 true own2 :: bx) (cs := cs) (cs2 := cs2) rfl rfl (by decide) hc2 ha hm (l k).h
    have a2 := k87 r f off n c off2 m c2 cs cs2 own own2 (partS m st (l k).h)
    have a3 := h103 r f off n c off2 m c2 cs cs2 own own2 out l st S hc hc2 ha hm k e1
    have this := ih (k + 1) (by omega)
    simp only [cast1] at this
    rcases Bool.eq_false_or_eq_true (rowB r f out l n m st k) with w | w
    · have a3 := a3.1 w
      refine ⟨fun _ => ?_, fun h => by simp [anyF, w] at h⟩
      apply ex_ret
      · rw [lpB_eq]
        simp (maxSteps := 1000000) (disch := first | omega | decide | assumption | simp [scal]) [za_4, o_fieldAddr fa_115_0 (by decide), o_fieldAddr fa_24_2 (by decide), loadA_eq ia_22, lenA_sl lk_22, o_indexAddrS es_22, loadA_eq ia_59, za_3, za_59, sz_3, sz_59, loadA_eq ia_115, o_fieldAddr fa_59_0 (by decide), loadA_eq ia_3, loadA_eq ia_24, sz_4, loadA_eq ia_4, want_some q73_26g3, want_some q73_26g8, want_some q73_26g13, e1, p2, p3, p4, a1, a2]
        rw [range_step n73_20e n73_20k rfl]
        simp only [lp73, lpD] at a3
        simp (maxSteps := 1000000) (disch := first | omega | decide | assumption | simp [scal]) [za_4, o_fieldAddr fa_115_0 (by decide), o_fieldAddr fa_24_2 (by decide), loadA_eq ia_22, lenA_sl lk_22, o_indexAddrS es_22, loadA_eq ia_59, za_3, za_59, sz_3, sz_59, loadA_eq ia_115, o_fieldAddr fa_59_0 (by decide), loadA_eq ia_3, loadA_eq ia_24, sz_4, loadA_eq ia_4, want_some q73_26g3, want_some q73_26g8, want_some q73_26g13, a3]
        rw [rangeE_done (e := .ret) rfl rfl rfl rfl]
        simp (maxSteps := 1000000) (disch := first | omega | decide | assumption | simp [scal]) [za_4, o_fieldAddr fa_115_0 (by decide), o_fieldAddr fa_24_2 (by decide), loadA_eq ia_22, lenA_sl lk_22, o_indexAddrS es_22, loadA_eq ia_59, za_3, za_59, sz_3, sz_59, loadA_eq ia_115, o_fieldAddr fa_59_0 (by decide), loadA_eq ia_3, loadA_eq ia_24, sz_4, loadA_eq ia_4, want_some q73_26g3, want_some q73_26g8, want_some q73_26g13, addWr]
        exact ⟨rfl, rfl⟩
      · rfl
      · rfl
    · obtain ⟨W, hW, a3⟩ := a3.2 w
      simp only [anyF, w, Bool.false_or]
      have key : lpB Try.prog LL ⟨73, 47, 2, none⟩ n73_6 n73_7 ⟨[(2, pp 2), (3, pp 3), (4, pp 4), (11, stV 0 off n c), (12, iv n), (13, iv k)], [.cells cs 3 true own, .cells cs2 1 true own2, ptB r f 0 off n c 1 off2 m c2, c1 out, b1 false], []⟩ =
        lpB Try.prog LL ⟨73, 47, 2, none⟩ n73_6 n73_7 ⟨[(2, pp 2), (3, pp 3), (4, pp 4), (11, stV 0 off n c), (12, iv n), (13, iv (k + 1))], [.cells cs 3 true own, .cells cs2 1 true own2, ptB r f 0 off n c 1 off2 m c2, c1 out, b1 false], []⟩ := by
        rw [lpB_eq]
        simp (maxSteps := 1000000) (disch := first | omega | decide | assumption | simp [scal]) [za_4, o_fieldAddr fa_115_0 (by decide), o_fieldAddr fa_24_2 (by decide), loadA_eq ia_22, lenA_sl lk_22, o_indexAddrS es_22, loadA_eq ia_59, za_3, za_59, sz_3, sz_59, loadA_eq ia_115, o_fieldAddr fa_59_0 (by decide), loadA_eq ia_3, loadA_eq ia_24, sz_4, loadA_eq ia_4, want_some q73_26g3, want_some q73_26g8, want_some q73_26g13, e1, p2, p3, p4, a1, a2]
        rw [range_step n73_20e n73_20k rfl]
        simp only [lp73] at a3
        simp (maxSteps := 1000000) (disch := first | omega | decide | assumption | simp [scal]) [za_4, o_fieldAddr fa_115_0 (by decide), o_fieldAddr fa_24_2 (by decide), loadA_eq ia_22, lenA_sl lk_22, o_indexAddrS es_22, loadA_eq ia_59, za_3, za_59, sz_3, sz_59, loadA_eq ia_115, o_fieldAddr fa_59_0 (by decide), loadA_eq ia_3, loadA_eq ia_24, sz_4, loadA_eq ia_4, want_some q73_26g3, want_some q73_26g8, want_some q73_26g13, a3]
        rw [rangeE_ready rfl rfl rfl]
        rcases hW with rfl | rfl <;>
        simp (maxSteps := 1000000) (disch := first | omega | decide | assumption | simp [scal]) [za_4, o_fieldAddr fa_115_0 (by decide), o_fieldAddr fa_24_2 (by decide), loadA_eq ia_22, lenA_sl lk_22, o_indexAddrS es_22, loadA_eq ia_59, za_3, za_59, sz_3, sz_59, loadA_eq ia_115, o_fieldAddr fa_59_0 (by decide), loadA_eq ia_3, loadA_eq ia_24, sz_4, loadA_eq ia_4, want_some q73_26g3, want_some q73_26g8, want_some q73_26g13, addWr]
      rw [key]
      exact this
end
end Go.Proofs.Ytiafgimgcbmgaaa.bl
namespace Go.Proofs.Ytiafgimgcbmgaaa.bl
open Go.GE
set_option linter.unusedVariables false
set_option linter.unusedSimpArgs false
set_option maxRecDepth 100000
set_option maxHeartbeats 4000000
attribute [local simp] runOps_nil runOps_cons runOpsF_nil runOpsF_cons fstS_some fstF_some opStep_eq want_none oStep_true oStep_false fin_pure fin_read fin_alloc fin_write storeB wrN cellV addWr o_move o_assign o_pick o_alloc o_box o_load o_store o_nilCheck o_bin o_un o_extract o_callV o_callB o_callI callV_f callV_y callV_fc o_makeFunc partsA Instr.fill builtin_len builtin_max2 bin_add bin_sub bin_mul bin_quo bin_rem bin_lss bin_leq bin_gtr bin_geq bin_eql bin_neq un_neg un_not bin_shr bin_shl wrap_u64_id opd opds optAll putO nbeq nblt constOk isC ops sub cl cr co bodyOf thenS_normal thenS_ret thenS_exit thenS_goto afterN_normal afterN_ret afterN_exit afterN_goto condS_true condS_false blockS_normal blockS_ret blockS_exit blockS_goto headS normS normK_eq fixS_nil fixS_cons fix1 fixV emptyB keepO_nil keepO_cons roundC_normal roundC_exit roundC_ret roundC_goto sweep_eq sweepD rnm pickR pickW rootsB ptrT renT ptrFn renFn ptrB_flat ptrB_non renB_flat renB_non plainS_some drawS_some fpsOk disj unord range' dropTo enumT undef wrap_i64_id Value.cells mkCells ptrTo scal cellsAt rdN endS_ret resultsA Option.bind_some tupV finish reachN dep ptrL_eq ptrL renL_eq renL ptrV_bool ptrV_int ptrV_string ptrV_nilFunc ptrV_nilIface ptrV_nilPtr ptrV_ptr ptrV_nilSl ptrV_sl ptrV_iface ptrV_agg ptrV_tuple ptrV_func renV_bool renV_int renV_string renV_nilFunc renV_nilIface renV_nilPtr renV_ptr renV_nilSl renV_sl renV_iface renV_agg renV_tuple renV_func gotoS_goto gotoS_normal gotoS_exit gotoS_ret skip_seq sliceE bnd bndHi intOf optOpd keepT_nil keepT_cons keepC_t keepC_f lk_nil lk_cons lkC_t lkC_f has_nil has_cons hasC_t hasC_f rep_nil rep_cons repC_t repC_f put_eq putC_t putC_f mem_nil mem_cons memC_t memC_f idx_nil idx_cons idxC_t idxC_f reach_nil reach_cons reachC_t reachC_f
attribute [local simp] n73_1s n73_4s n73_8s n73_11s n73_12s n73_10s n73_16s n73_18s n73_22s n73_23s n73_21s n73_26s n73_29s n73_30s n73_28s n73_31s n73_27s n73_25s n73_24s n73_19s n73_17s n73_15s n73_14s n73_32s n73_13s n73_9s n73_7s n73_6s n73_6g n73_5s n73_3s n73_34s n73_35s n73_33s n73_2s n73_0s Try.f73 n72_1s n72_4s n72_6s n72_9s n72_10s n72_8s n72_11s n72_7s n72_5s n72_3s n72_14s n72_17s n72_18s n72_16s n72_19s n72_15s n72_13s n72_21s n72_24s n72_28s n72_31s n72_32s n72_30s n72_36s n72_40s n72_43s n72_44s n72_42s n72_46s n72_49s n72_50s n72_48s n72_51s n72_47s n72_45s n72_41s n72_39s n72_38s n72_52s n72_37s n72_35s n72_34s n72_53s n72_33s n72_29s n72_27s n72_26s n72_26g n72_25s n72_23s n72_55s n72_56s n72_54s n72_22s n72_20s n72_12s n72_2s n72_0s Try.f72
theorem any_clash {r f out : Int} {l : Nat → Ab} {n m : Nat} {st : Nat → Int} : anyF (rowB r f out l n m st) n 0 = clashS r f n l m st out := by
  apply Bool.eq_iff_iff.2
  unfold clashS
  simp only [anyF_iff, rowB, hitB, badB, Bool.and_eq_true, Bool.not_eq_true', decide_eq_true_eq, decide_eq_false_iff_not]
  constructor
  · rintro ⟨k, _, hk, i, _, hi, h1, ⟨⟨h2, h3⟩, h4⟩, h5⟩
    exact ⟨i, by omega, by omega, k, by omega, by omega, ⟨⟨h3, h4⟩, h1⟩, h5⟩
  · rintro ⟨i, _, hi, k, h0, hk, ⟨⟨h3, h4⟩, h1⟩, h5⟩
    exact ⟨k, by omega, by omega, i, by omega, by omega, h1, ⟨⟨by omega, h3⟩, h4⟩, h5⟩
section
variable (r f : Int) (off n c off2 m c2 : Nat) (cs cs2 : List Value) (own own2 : Bool) (out : Int) (l : Nat → Ab) (st : Nat → Int)
theorem c73 (S : Sht r f n l) (hc : AbC cs off n l) (hc2 : IvC cs2 off2 m st) (ha : Asc m st) (hm : m ≤ 1000) : LL.run 73 [ptV r f 0 off n c 1 off2 m c2, iv out] [.cells cs 3 true own, .cells cs2 1 true own2] = some ⟨.bool (!clashS r f n l m st out), [], []⟩ := by
  refine go (by decide) ?_
  rw [run73 _ _ _ (by simp)]
  have this := l73 r f off n c off2 m c2 cs cs2 own own2 out l st S hc hc2 ha hm n 0 (by omega)
  rw [any_clash] at this
  simp only [Int.natCast_zero] at this
  rcases Bool.eq_false_or_eq_true (clashS r f n l m st out) with w | w
  · obtain ⟨σ, h, h1, h2, this⟩ := this.1 w
    rw [w]
    simp (maxSteps := 1000000) (disch := first | omega | decide | assumption | simp [scal]) [za_4, o_fieldAddr fa_115_0 (by decide), o_fieldAddr fa_24_2 (by decide), loadA_eq ia_22, lenA_sl lk_22, o_indexAddrS es_22, loadA_eq ia_59, za_3, za_59, sz_3, sz_59, loadA_eq ia_115, o_fieldAddr fa_59_0 (by decide), loadA_eq ia_3, loadA_eq ia_24, sz_4, loadA_eq ia_4, want_some q73_26g3, want_some q73_26g8, want_some q73_26g13, this, h1, h2]
  · have this := this.2 w
    rw [w]
    simp (maxSteps := 1000000) (disch := first | omega | decide | assumption | simp [scal]) [za_4, o_fieldAddr fa_115_0 (by decide), o_fieldAddr fa_24_2 (by decide), loadA_eq ia_22, lenA_sl lk_22, o_indexAddrS es_22, loadA_eq ia_59, za_3, za_59, sz_3, sz_59, loadA_eq ia_115, o_fieldAddr fa_59_0 (by decide), loadA_eq ia_3, loadA_eq ia_24, sz_4, loadA_eq ia_4, want_some q73_26g3, want_some q73_26g8, want_some q73_26g13, this]
def stpL (st : Nat → Int) : Nat → Nat → Int → Int
  | 0, _, _ => 0
  | k + 1, i, last => if (decide (0 ≤ st i) && decide (st i ≤ 10000)) = false then 1 else if st i ≤ last then 5 else stpL st k (i + 1) (st i)
noncomputable def stpS (m : Nat) (st : Nat → Int) : Int := if 40 < m then 3 else stpL st m 0 (-1)
abbrev E3 : Blk := .cells [] 3 true true
abbrev E1 : Blk := .cells [] 1 true true
abbrev zB (a b : Nat) : Blk := .cells [iv 0, iv 0, .slice (some ⟨a, 0, none⟩) 0 0, .slice (some ⟨b, 0, none⟩) 0 0] 1 false true
abbrev zV (a b : Nat) : Value := .agg #[iv 0, iv 0, .slice (some ⟨a, 0, none⟩) 0 0, .slice (some ⟨b, 0, none⟩) 0 0]
theorem l72 (hc2 : IvC cs2 off2 m st) (hm : m ≤ 40) : ∀ k (i : Nat) last, i + k = m →
    lpB Try.prog LL ⟨72, 41, 2, none⟩ n72_26 n72_27 ⟨[(1, stV 1 off2 m c2), (2, pp 2), (4, pp 3), (7, iv last), (20, stV 1 off2 m c2), (21, iv m), (22, iv i)], [.cells cs 3 true own, .cells cs2 1 true own2, shB r f 0 off n c, zB 4 5, E3, E1], []⟩ =
      if stpL st k i last = 0 then some (.exit 0, ⟨[(1, stV 1 off2 m c2), (2, pp 2), (4, pp 3)], [.cells cs 3 true own, .cells cs2 1 true own2, shB r f 0 off n c, zB 4 5, E3, E1], []⟩)
      else some (.ret, ⟨[(4, pp 2), (5, iv (stpL st k i last))], [.cells cs 3 true own, .cells cs2 1 true own2, zB 3 4, E3, E1], []⟩) := by
  intro k
  induction k with
  | zero =>
    intro i last hi
    obtain rfl : i = m := by omega
    rw [lpB_eq]
    simp (maxSteps := 1000000) (disch := first | omega | decide | assumption | simp [scal]) [za_115, loadA_eq ia_24, o_build za_115 pl_115, sz_115, lenA_sl lk_25, o_indexAddrS es_25, loadA_eq ia_3, loadA_eq ia_115, stpL]
  | succ k ih =>
    intro i last hi
    have e1 : i < m := by omega
    have this := ih (i + 1) (st i) (by omega)
    have e2 := hc2 i e1
    rw [lpB_eq]
    simp only [cast1] at this
    cases h1 : (decide (0 ≤ st i) && decide (st i ≤ 10000))
    · simp (maxSteps := 1000000) (disch := first | omega | decide | assumption | simp [scal]) [za_115, loadA_eq ia_24, o_build za_115 pl_115, sz_115, lenA_sl lk_25, o_indexAddrS es_25, loadA_eq ia_3, loadA_eq ia_115, stpL, k56, e1, e2, h1]
    · by_cases h2 : st i ≤ last
      · simp (maxSteps := 1000000) (disch := first | omega | decide | assumption | simp [scal]) [za_115, loadA_eq ia_24, o_build za_115 pl_115, sz_115, lenA_sl lk_25, o_indexAddrS es_25, loadA_eq ia_3, loadA_eq ia_115, stpL, k56, e1, e2, h1, h2]
      · simp (maxSteps := 1000000) (disch := first | omega | decide | assumption | simp [scal]) [za_115, loadA_eq ia_24, o_build za_115 pl_115, sz_115, lenA_sl lk_25, o_indexAddrS es_25, loadA_eq ia_3, loadA_eq ia_115, stpL, k56, e1, e2, h1, h2, this]
end
end Go.Proofs.Ytiafgimgcbmgaaa.bl
namespace Go.Proofs.Ytiafgimgcbmgaaa.bl
open Go.GE
set_option linter.unusedVariables false
set_option linter.unusedSimpArgs false
set_option maxRecDepth 100000
set_option maxHeartbeats 4000000
attribute [local simp] runOps_nil runOps_cons runOpsF_nil runOpsF_cons fstS_some fstF_some opStep_eq want_none oStep_true oStep_false fin_pure fin_read fin_alloc fin_write storeB wrN cellV addWr o_move o_assign o_pick o_alloc o_box o_load o_store o_nilCheck o_bin o_un o_extract o_callV o_callB o_callI callV_f callV_y callV_fc o_makeFunc partsA Instr.fill builtin_len builtin_max2 bin_add bin_sub bin_mul bin_quo bin_rem bin_lss bin_leq bin_gtr bin_geq bin_eql bin_neq un_neg un_not bin_shr bin_shl wrap_u64_id opd opds optAll putO nbeq nblt constOk isC ops sub cl cr co bodyOf thenS_normal thenS_ret thenS_exit thenS_goto afterN_normal afterN_ret afterN_exit afterN_goto condS_true condS_false blockS_normal blockS_ret blockS_exit blockS_goto headS normS normK_eq fixS_nil fixS_cons fix1 fixV emptyB keepO_nil keepO_cons roundC_normal roundC_exit roundC_ret roundC_goto sweep_eq sweepD rnm pickR pickW rootsB ptrT renT ptrFn renFn ptrB_flat ptrB_non renB_flat renB_non plainS_some drawS_some fpsOk disj unord range' dropTo enumT undef wrap_i64_id Value.cells mkCells ptrTo scal cellsAt rdN endS_ret resultsA Option.bind_some tupV finish reachN dep ptrL_eq ptrL renL_eq renL ptrV_bool ptrV_int ptrV_string ptrV_nilFunc ptrV_nilIface ptrV_nilPtr ptrV_ptr ptrV_nilSl ptrV_sl ptrV_iface ptrV_agg ptrV_tuple ptrV_func renV_bool renV_int renV_string renV_nilFunc renV_nilIface renV_nilPtr renV_ptr renV_nilSl renV_sl renV_iface renV_agg renV_tuple renV_func gotoS_goto gotoS_normal gotoS_exit gotoS_ret skip_seq sliceE bnd bndHi intOf optOpd keepT_nil keepT_cons keepC_t keepC_f lk_nil lk_cons lkC_t lkC_f has_nil has_cons hasC_t hasC_f rep_nil rep_cons repC_t repC_f put_eq putC_t putC_f mem_nil mem_cons memC_t memC_f idx_nil idx_cons idxC_t idxC_f reach_nil reach_cons reachC_t reachC_f
attribute [local simp] n72_1s n72_4s n72_6s n72_9s n72_10s n72_8s n72_11s n72_7s n72_5s n72_3s n72_14s n72_17s n72_18s n72_16s n72_19s n72_15s n72_13s n72_21s n72_24s n72_28s n72_31s n72_32s n72_30s n72_36s n72_40s n72_43s n72_44s n72_42s n72_46s n72_49s n72_50s n72_48s n72_51s n72_47s n72_45s n72_41s n72_39s n72_38s n72_52s n72_37s n72_35s n72_34s n72_53s n72_33s n72_29s n72_27s n72_26s n72_26g n72_25s n72_23s n72_55s n72_56s n72_54s n72_22s n72_20s n72_12s n72_2s n72_0s Try.f72 n53_1s n53_3s n53_6s n53_9s n53_10s n53_8s n53_11s n53_7s n53_5s n53_13s n53_14s n53_12s n53_4s n53_2s n53_0s Try.f53
/-- the error of a sheet with steps -/
noncomputable def ptdE (r f : Int) (n : Nat) (l : Nat → Ab) (m : Nat) (st : Nat → Int) : Int := if chkS r f n l ≠ 0 then chkS r f n l else stpS m st
theorem asc_of {m : Nat} {st : Nat → Int} (h : stpS m st = 0) : Asc m st ∧ m ≤ 40 ∧ ∀ i, i < m → 0 ≤ st i ∧ st i ≤ 10000 := by
  unfold stpS at h
  split at h
  · simp at h
  · rename_i hm
    have key : ∀ k i last, stpL st k i last = 0 → (∀ j, i ≤ j → j < i + k → 0 ≤ st j ∧ st j ≤ 10000) ∧ (0 < k → last < st i) ∧ ∀ j, i ≤ j → j + 1 < i + k → st j < st (j + 1) := by
      intro k
      induction k with
      | zero => intro i last _; exact ⟨fun j h1 h2 => by omega, fun h => by omega, fun j h1 h2 => by omega⟩
      | succ k ih =>
        intro i last h
        unfold stpL at h
        split at h
        · simp at h
        · rename_i h1
          split at h
          · simp at h
          · rename_i h2
            obtain ⟨q1, q2, q3⟩ := ih (i + 1) _ h
            simp only [Bool.not_eq_false, Bool.and_eq_true, decide_eq_true_eq] at h1
            refine ⟨fun j a b => ?_, fun _ => by omega, fun j a b => ?_⟩
            · rcases Nat.eq_or_lt_of_le a with rfl | a
              · exact h1
              · exact q1 j (by omega) (by omega)
            · rcases Nat.eq_or_lt_of_le a with rfl | a
              · exact q2 (by omega)
              · exact q3 j (by omega) (by omega)
    obtain ⟨q1, q2, q3⟩ := key _ _ _ h
    refine ⟨?_, by omega, fun i hi => q1 i (by omega) (by omega)⟩
    intro i j hij
    induction j with
    | zero => omega
    | succ j ih =>
      intro hj
      have := q3 j (by omega) (by omega)
      rcases Nat.lt_succ_iff_lt_or_eq.1 hij with h | rfl
      · have := ih h (by omega); omega
      · exact this
section
variable (r f : Int) (off n c off2 m c2 : Nat) (cs cs2 : List Value) (own own2 : Bool) (l : Nat → Ab) (st : Nat → Int)
theorem c72a (hc : AbC cs off n l) (hc2 : IvC cs2 off2 m st) (he : ptdE r f n l m st = 0) : LL.run 72 [shV r f 0 off n c, stV 1 off2 m c2] [.cells cs 3 true own, .cells cs2 1 true own2] = some ⟨.tuple #[ptV r f 0 off n c 1 off2 m c2, iv 0], [], []⟩ := by
  refine go (by decide) ?_
  rw [run72 _ _ _ (by simp)]
  have a1 := fun bx => k22 r f 0 off n c (h := .cells cs 3 true own :: bx) l rfl hc
  unfold ptdE at he
  by_cases h1 : chkS r f n l = 0
  · rw [if_neg (by simp [h1])] at he
    have h4 := (asc_of he).2.1
    unfold stpS at he
    rw [if_neg (by omega)] at he
    have this := l72 r f off n c off2 m c2 cs cs2 own own2 st hc2 h4 m 0 (-1) (by omega)
    rw [if_pos he] at this
    simp only [Int.natCast_zero] at this
    have h4' : ¬ (40 : Int) < m := by omega
    simp (maxSteps := 1000000) (disch := first | omega | decide | assumption | simp [scal]) [za_115, loadA_eq ia_24, o_build za_115 pl_115, sz_115, lenA_sl lk_25, o_indexAddrS es_25, loadA_eq ia_3, loadA_eq ia_115, a1, h1, h4', this]
  · rw [if_pos h1] at he; exact absurd he h1
theorem c72b (hc : AbC cs off n l) (hc2 : IvC cs2 off2 m st) (he : ptdE r f n l m st ≠ 0) : LL.run 72 [shV r f 0 off n c, stV 1 off2 m c2] [.cells cs 3 true own, .cells cs2 1 true own2] = some ⟨.tuple #[zV 2 3, iv (ptdE r f n l m st)], [E3, E1], []⟩ := by
  refine go (by decide) ?_
  rw [run72 _ _ _ (by simp)]
  have a1 := fun bx => k22 r f 0 off n c (h := .cells cs 3 true own :: bx) l rfl hc
  unfold ptdE at he ⊢
  by_cases h1 : chkS r f n l = 0
  · rw [if_neg (by simp [h1])] at he ⊢
    by_cases h4 : 40 < m
    · have h4' : (40 : Int) < m := by omega
      have hs : stpS m st = 3 := by unfold stpS; rw [if_pos h4]
      simp (maxSteps := 1000000) (disch := first | omega | decide | assumption | simp [scal]) [za_115, loadA_eq ia_24, o_build za_115 pl_115, sz_115, lenA_sl lk_25, o_indexAddrS es_25, loadA_eq ia_3, loadA_eq ia_115, a1, h1, h4', hs]
    · have hs : stpS m st = stpL st m 0 (-1) := by unfold stpS; rw [if_neg h4]
      rw [hs] at he ⊢
      have this := l72 r f off n c off2 m c2 cs cs2 own own2 st hc2 (by omega) m 0 (-1) (by omega)
      rw [if_neg he] at this
      simp only [Int.natCast_zero] at this
      have h4' : ¬ (40 : Int) < m := by omega
      simp (maxSteps := 1000000) (disch := first | omega | decide | assumption | simp [scal]) [za_115, loadA_eq ia_24, o_build za_115 pl_115, sz_115, lenA_sl lk_25, o_indexAddrS es_25, loadA_eq ia_3, loadA_eq ia_115, a1, h1, h4', this]
  · rw [if_pos h1] at he ⊢
    simp (maxSteps := 1000000) (disch := first | omega | decide | assumption | simp [scal]) [za_115, loadA_eq ia_24, o_build za_115 pl_115, sz_115, lenA_sl lk_25, o_indexAddrS es_25, loadA_eq ia_3, loadA_eq ia_115, a1, h1]
end
section
variable (r f : Int) (b1 off n c b2 off2 m c2 : Nat) {cs cs2 : List Value} {own own2 : Bool} {l : Nat → Ab} {st : Nat → Int} (out : Int) {h : List Blk}
theorem ss_ren (hne : b1 ≠ b2) : optAll (renV (idx [b1, b2]) dep) [shV r f b1 off n c, stV b2 off2 m c2] = some [shV r f 0 off n c, stV 1 off2 m c2] := by simp [renV, dep, optAll, idx, nbeq, hne, hne.symm]
theorem k72a (hb : h[b1]? = some (.cells cs 3 true own)) (hb2 : h[b2]? = some (.cells cs2 1 true own2)) (hne : b1 ≠ b2) (hc : AbC cs off n l) (hc2 : IvC cs2 off2 m st) (he : ptdE r f n l m st = 0) :
    callH LL 72 [shV r f b1 off n c, stV b2 off2 m c2] h = some ⟨.tuple #[ptV r f b1 off n c b2 off2 m c2, iv 0], h, [b1, b2], []⟩ := by
  have e := c72a r f off n c off2 m c2 cs cs2 own own2 l st hc hc2 he
  have := callN_2 (E := LL) (v' := .tuple #[ptV r f b1 off n c b2 off2 m c2, iv 0]) rfl hb hb2 hne noIdB_flat noIdB_flat (ss_ren r f b1 off n c b2 off2 m c2 hne) e (by simp) (by simp [renV, dep, optAll, nblt])
  simpa using this
theorem k72b (hb : h[b1]? = some (.cells cs 3 true own)) (hb2 : h[b2]? = some (.cells cs2 1 true own2)) (hne : b1 ≠ b2) (hc : AbC cs off n l) (hc2 : IvC cs2 off2 m st) (he : ptdE r f n l m st ≠ 0) :
    callH LL 72 [shV r f b1 off n c, stV b2 off2 m c2] h = some ⟨.tuple #[zV h.length (h.length + 1), iv (ptdE r f n l m st)], h ++ [E3, E1], [b1, b2], []⟩ :=
  callN_2 rfl hb hb2 hne noIdB_flat noIdB_flat (ss_ren r f b1 off n c b2 off2 m c2 hne) (c72b r f off n c off2 m c2 cs cs2 own own2 l st hc hc2 he) (by intro b hb; simp at hb; rcases hb with rfl | rfl <;> exact noIdB_flat) (by simp [renV, dep, optAll, nblt])
theorem k73 (S : Sht r f n l) (hb : h[b1]? = some (.cells cs 3 true own)) (hb2 : h[b2]? = some (.cells cs2 1 true own2)) (hne : b1 ≠ b2) (hc : AbC cs off n l) (hc2 : IvC cs2 off2 m st) (ha : Asc m st) (hm : m ≤ 1000) :
    callH LL 73 [ptV r f b1 off n c b2 off2 m c2, iv out] h = some ⟨.bool (!clashS r f n l m st out), h, [b1, b2], []⟩ :=
  callH_2 rfl hb hb2 hne noIdB_flat noIdB_flat (args' := [ptV r f 0 off n c 1 off2 m c2, iv out]) (by simp [renV, dep, optAll, idx, nbeq, hne, hne.symm]) (c73 r f off n c off2 m c2 cs cs2 own own2 out l st S hc hc2 ha hm) fun _ => rfl
end
/-- the error of explaining -/
noncomputable def expE (r f : Int) (n : Nat) (l : Nat → Ab) (m : Nat) (st : Nat → Int) : Int := if ptdE r f n l m st ≠ 0 then ptdE r f n l m st else if clashS r f n l m st (-1) then 13 else 0
theorem ptd_chk {r f : Int} {n : Nat} {l : Nat → Ab} {m : Nat} {st : Nat → Int} (h : ptdE r f n l m st = 0) : Sht r f n l ∧ Asc m st ∧ m ≤ 40 := by
  unfold ptdE at h
  split at h
  · rename_i h1; exact absurd h h1
  · rename_i h1
    have := asc_of h
    exact ⟨chkS_zero (by simpa using h1), this.1, this.2.1⟩
section
variable (r f : Int) (off n c off2 m c2 : Nat) (cs cs2 : List Value) (own own2 : Bool) (l : Nat → Ab) (st : Nat → Int)
theorem c53a (hc : AbC cs off n l) (hc2 : IvC cs2 off2 m st) (he : expE r f n l m st = 0) : LL.run 53 [shV r f 0 off n c, stV 1 off2 m c2] [.cells cs 3 true own, .cells cs2 1 true own2] = some ⟨.tuple #[ptV r f 0 off n c 1 off2 m c2, iv 0], [], []⟩ := by
  refine go (by decide) ?_
  rw [run53 _ _ _ (by simp)]
  unfold expE at he
  by_cases h1 : ptdE r f n l m st = 0
  · rw [if_neg (by simp [h1])] at he
    obtain ⟨S, ha, hm⟩ := ptd_chk h1
    have a1 := fun bx => k72a r f 0 off n c 1 off2 m c2 (h := .cells cs 3 true own :: .cells cs2 1 true own2 :: bx) rfl rfl (by decide) hc hc2 h1
    have a2 := fun bx => k73 r f 0 off n c 1 off2 m c2 (-1) (h := .cells cs 3 true own :: .cells cs2 1 true own2 :: bx) S rfl rfl (by decide) hc hc2 ha (by omega)
    rcases Bool.eq_false_or_eq_true (clashS r f n l m st (-1)) with w | w
    · rw [w] at he; simp at he
    · rw [w] at a2
      simp (maxSteps := 1000000) (disch := first | omega | decide | assumption | simp [scal]) [za_115, loadA_eq ia_24, sz_115, loadA_eq ia_115, o_build za_115 pl_115, want_some q53_6g2, a1, a2]
  · rw [if_pos h1] at he; exact absurd he h1
theorem c53b (hc : AbC cs off n l) (hc2 : IvC cs2 off2 m st) (he : expE r f n l m st ≠ 0) : LL.run 53 [shV r f 0 off n c, stV 1 off2 m c2] [.cells cs 3 true own, .cells cs2 1 true own2] = some ⟨.tuple #[zV 2 3, iv (expE r f n l m st)], [E3, E1], []⟩ := by
  refine go (by decide) ?_
  rw [run53 _ _ _ (by simp)]
  unfold expE at he ⊢
  by_cases h1 : ptdE r f n l m st = 0
  · rw [if_neg (by simp [h1])] at he ⊢
    obtain ⟨S, ha, hm⟩ := ptd_chk h1
    have a1 := fun bx => k72a r f 0 off n c 1 off2 m c2 (h := .cells cs 3 true own :: .cells cs2 1 true own2 :: bx) rfl rfl (by decide) hc hc2 h1
    have a2 := fun bx => k73 r f 0 off n c 1 off2 m c2 (-1) (h := .cells cs 3 true own :: .cells cs2 1 true own2 :: bx) S rfl rfl (by decide) hc hc2 ha (by omega)
    rcases Bool.eq_false_or_eq_true (clashS r f n l m st (-1)) with w | w
    · rw [w] at a2 ⊢
      simp (maxSteps := 1000000) (disch := first | omega | decide | assumption | simp [scal]) [za_115, loadA_eq ia_24, sz_115, loadA_eq ia_115, o_build za_115 pl_115, want_some q53_6g2, a1, a2]
    · rw [w] at he; simp at he
  · rw [if_pos h1] at he ⊢
    have a1 := fun bx => k72b r f 0 off n c 1 off2 m c2 (h := .cells cs 3 true own :: .cells cs2 1 true own2 :: bx) rfl rfl (by decide) hc hc2 h1
    simp (maxSteps := 1000000) (disch := first | omega | decide | assumption | simp [scal]) [za_115, loadA_eq ia_24, sz_115, loadA_eq ia_115, o_build za_115 pl_115, want_some q53_6g2, a1, h1]
end
end Go.Proofs.Ytiafgimgcbmgaaa.bl
namespace Go.Proofs.Ytiafgimgcbmgaaa.bl
open Go.GE
set_option linter.unusedVariables false
set_option linter.unusedSimpArgs false
set_option maxRecDepth 100000
set_option maxHeartbeats 4000000
section
variable (r f : Int) (b1 off n c b2 off2 m c2 : Nat) {cs cs2 : List Value} {own own2 : Bool} {l : Nat → Ab} {st : Nat → Int} {h : List Blk}
theorem k53a (hb : h[b1]? = some (.cells cs 3 true own)) (hb2 : h[b2]? = some (.cells cs2 1 true own2)) (hne : b1 ≠ b2) (hc : AbC cs off n l) (hc2 : IvC cs2 off2 m st) (he : expE r f n l m st = 0) :
    callH LL 53 [shV r f b1 off n c, stV b2 off2 m c2] h = some ⟨.tuple #[ptV r f b1 off n c b2 off2 m c2, iv 0], h, [b1, b2], []⟩ := by
  have e := c53a r f off n c off2 m c2 cs cs2 own own2 l st hc hc2 he
  have := callN_2 (E := LL) (v' := .tuple #[ptV r f b1 off n c b2 off2 m c2, iv 0]) rfl hb hb2 hne noIdB_flat noIdB_flat (ss_ren r f b1 off n c b2 off2 m c2 hne) e (by simp) (by simp [renV, dep, optAll, nblt])
  simpa using this
theorem k53b (hb : h[b1]? = some (.cells cs 3 true own)) (hb2 : h[b2]? = some (.cells cs2 1 true own2)) (hne : b1 ≠ b2) (hc : AbC cs off n l) (hc2 : IvC cs2 off2 m st) (he : expE r f n l m st ≠ 0) :
    callH LL 53 [shV r f b1 off n c, stV b2 off2 m c2] h = some ⟨.tuple #[zV h.length (h.length + 1), iv (expE r f n l m st)], h ++ [E3, E1], [b1, b2], []⟩ :=
  callN_2 rfl hb hb2 hne noIdB_flat noIdB_flat (ss_ren r f b1 off n c b2 off2 m c2 hne) (c53b r f off n c off2 m c2 cs cs2 own own2 l st hc hc2 he) (by intro b hb; simp at hb; rcases hb with rfl | rfl <;> exact noIdB_flat) (by simp [renV, dep, optAll, nblt])
end
end Go.Proofs.Ytiafgimgcbmgaaa.bl
namespace Go.Proofs.Ytiafgimgcbmgaaa.bl
open Go.GE
set_option linter.unusedVariables false
set_option linter.unusedSimpArgs false
set_option maxRecDepth 100000
set_option maxHeartbeats 4000000
def iB (x : List Int) : Blk := .cells (x.map iv) 1 true true
end Go.Proofs.Ytiafgimgcbmgaaa.bl
namespace Go.Proofs.Ytiafgimgcbmgaaa.bl
open Go.GE
set_option linter.unusedVariables false
set_option linter.unusedSimpArgs false
set_option maxRecDepth 100000
set_option maxHeartbeats 4000000
theorem iB_noId {a : List Int} : noIdB (iB a) := noIdB_flat
/-- a whole list, at block b -/
abbrev wh (b m : Nat) : Value := .slice (some ⟨b, 0, none⟩) m m
end Go.Proofs.Ytiafgimgcbmgaaa.bl
namespace Go.Proofs.Ytiafgimgcbmgaaa.bl
open Go.GE
set_option linter.unusedVariables false
set_option linter.unusedSimpArgs false
set_option maxRecDepth 100000
set_option maxHeartbeats 4000000
def abG (a : Ab) : List Value := [iv a.h, iv a.lo, iv a.hi]
end Go.Proofs.Ytiafgimgcbmgaaa.bl
namespace Go.Proofs.Ytiafgimgcbmgaaa.bl
open Go.GE
set_option linter.unusedVariables false
set_option linter.unusedSimpArgs false
set_option maxRecDepth 100000
set_option maxHeartbeats 4000000
theorem k15 (h : List Blk) : callH LL 15 [] h = some ⟨.bool true, h, [], []⟩ := callH_plain (L_tab rfl) rfl rfl
end Go.Proofs.Ytiafgimgcbmgaaa.bl
namespace Go.Proofs.Ytiafgimgcbmgaaa.bl
open Go.GE Go.ChangeShapes Go.WideShapes Go.RowKit
set_option linter.unusedVariables false
set_option linter.unusedSimpArgs false
set_option maxRecDepth 100000
set_option maxHeartbeats 4000000
def abAt (L : List Ab) (i : Nat) : Ab := L.getD i ⟨0, 0, 0⟩
def inAt (x : List Int) (i : Nat) : Int := x.getD i 0
theorem abAt_C (L : List Ab) : AbC (L.flatMap abG) 0 L.length (abAt L) := by
  intro i hi
  have h : L[i]? = some (abAt L i) := by simp [abAt, hi]
  refine ⟨?_, ?_, ?_⟩
  · have := flat_get (g := abG) (k := 3) (fun _ => rfl) h (j := 0) (by omega); simpa [abG] using this
  · have := flat_get (g := abG) (k := 3) (fun _ => rfl) h (j := 1) (by omega); simpa [abG] using this
  · have := flat_get (g := abG) (k := 3) (fun _ => rfl) h (j := 2) (by omega); simpa [abG] using this
theorem inAt_C (x : List Int) : IvC (x.map iv) 0 x.length (inAt x) := by
  intro i hi
  simp [inAt, hi]
end Go.Proofs.Ytiafgimgcbmgaaa.bl
namespace Go.Proofs.Ytiafgimgcbmgaaa.bl
open Go.GE
set_option linter.unusedVariables false
set_option linter.unusedSimpArgs false
set_option maxRecDepth 100000
set_option maxHeartbeats 4000000
attribute [local simp] runOps_nil runOps_cons runOpsF_nil runOpsF_cons fstS_some fstF_some opStep_eq want_none oStep_true oStep_false fin_pure fin_read fin_alloc fin_write storeB wrN cellV addWr o_move o_assign o_pick o_alloc o_box o_load o_store o_nilCheck o_bin o_un o_extract o_callV o_callB o_callI callV_f callV_y callV_fc o_makeFunc partsA Instr.fill builtin_len builtin_max2 bin_add bin_sub bin_mul bin_quo bin_rem bin_lss bin_leq bin_gtr bin_geq bin_eql bin_neq un_neg un_not bin_shr bin_shl wrap_u64_id opd opds optAll putO nbeq nblt constOk isC ops sub cl cr co bodyOf thenS_normal thenS_ret thenS_exit thenS_goto afterN_normal afterN_ret afterN_exit afterN_goto condS_true condS_false blockS_normal blockS_ret blockS_exit blockS_goto headS normS normK_eq fixS_nil fixS_cons fix1 fixV emptyB keepO_nil keepO_cons roundC_normal roundC_exit roundC_ret roundC_goto sweep_eq sweepD rnm pickR pickW rootsB ptrT renT ptrFn renFn ptrB_flat ptrB_non renB_flat renB_non plainS_some drawS_some fpsOk disj unord range' dropTo enumT undef wrap_i64_id Value.cells mkCells ptrTo scal cellsAt rdN endS_ret resultsA Option.bind_some tupV finish reachN dep ptrL_eq ptrL renL_eq renL ptrV_bool ptrV_int ptrV_string ptrV_nilFunc ptrV_nilIface ptrV_nilPtr ptrV_ptr ptrV_nilSl ptrV_sl ptrV_iface ptrV_agg ptrV_tuple ptrV_func renV_bool renV_int renV_string renV_nilFunc renV_nilIface renV_nilPtr renV_ptr renV_nilSl renV_sl renV_iface renV_agg renV_tuple renV_func gotoS_goto gotoS_normal gotoS_exit gotoS_ret skip_seq sliceE bnd bndHi intOf optOpd keepT_nil keepT_cons keepC_t keepC_f lk_nil lk_cons lkC_t lkC_f has_nil has_cons hasC_t hasC_f rep_nil rep_cons repC_t repC_f put_eq putC_t putC_f mem_nil mem_cons memC_t memC_f idx_nil idx_cons idxC_t idxC_f reach_nil reach_cons reachC_t reachC_f
attribute [local simp] n86_1s n86_4s n86_6s n86_7s n86_5s n86_3s n86_8s n86_2s n86_0s Try.f86 n61_1s n61_3s n61_5s n61_8s n61_11s n61_13s n61_12s n61_9s n61_7s n61_15s n61_16s n61_14s n61_6s n61_4s n61_2s n61_0s Try.f61
theorem builtin_min2 {P : Program} {h : List Blk} {ts : List TypeId} {k k' : IntKind} {a b : Int} : builtinA P h .min ts [.int k a, .int k' b] = pureR h (.int k (if b < a then b else a)) := by
  cases ts <;> rfl
/-- values that are cut: from, to, known -/
abbrev Lim := Int × Int × Bool
def limB (p : Lim) : Blk := .cells [iv p.1, iv p.2.1, .bool p.2.2] 1 true true
def vStep (p : Lim) (lo hi : Int) : Lim := if p.2.2 then (if p.1 < lo then lo else p.1, if hi < p.2.1 then hi else p.2.1, true) else (lo, hi, true)
theorem c86 (p : Lim) (lo hi : Int) : LL.run 86 [pp 0, .agg #[iv lo, iv hi]] [limB p] = some ⟨.tuple #[], [], [(0, limB (vStep p lo hi))]⟩ := by
  refine go (by decide) ?_
  rw [run86 _ _ _ (by simp)]
  obtain ⟨a, b, k⟩ := p
  cases k
  · simp only [limB, vStep]
    simp (maxSteps := 1000000) (disch := first | omega | decide | assumption | simp [scal]) [o_fieldAddr fa_127_1 (by decide), loadA_eq ia_4, o_fieldAddr fa_127_0 (by decide), o_fieldAddr fa_57_0 (by decide), loadA_eq ia_3, o_fieldAddr fa_57_1 (by decide), za_57, o_build za_57 pl_57, sz_57, loadA_eq ia_57, sz_4, endS_normal, addWr, ins]
  · simp only [limB, vStep]
    by_cases h1 : a < lo <;> by_cases h2 : hi < b <;>
    simp (maxSteps := 1000000) (disch := first | omega | decide | assumption | simp [scal]) [o_fieldAddr fa_127_1 (by decide), loadA_eq ia_4, o_fieldAddr fa_127_0 (by decide), o_fieldAddr fa_57_0 (by decide), loadA_eq ia_3, o_fieldAddr fa_57_1 (by decide), za_57, o_build za_57 pl_57, sz_57, loadA_eq ia_57, sz_4, endS_normal, addWr, ins, builtin_min2, h1, h2]
theorem k86 (p : Lim) (lo hi : Int) {b : Nat} {h : List Blk} (hb : h[b]? = some (limB p)) : callH LL 86 [pp b, .agg #[iv lo, iv hi]] h = some ⟨.tuple #[], h.set b (limB (vStep p lo hi)), [b], [b]⟩ := by
  have e := c86 p lo hi
  refine callH_of (by intro _; first | trivial | rfl) ?_ (by simpa using (List.getElem?_eq_some_iff.1 hb).1)
  unfold callH0
  have hp : ([pp b, .agg #[iv lo, iv hi]] : List Value).flatMap (ptrV dep) = [b] := rfl
  rw [hp, reach_one hb rfl (by decide)]
  have hr : optAll (renV (idx [b]) dep) [pp b, .agg #[iv lo, iv hi]] = some [pp 0, .agg #[iv lo, iv hi]] := by simp [renV, dep, optAll, idx, nbeq]
  simp only [hr]
  have hl : ∀ q g, renB g (limB q) = some (limB q) := fun _ _ => rfl
  simp [optAll, hb, hl, e, mergeB, renV_tuple, renL, dep]
noncomputable def lp61 (a b d : Nat) : ALoop := ⟨.ready, none, 61, [(6, pp a), (3, pp b), (2, pp d)], 25, #[15, 16], n61_11, n61_12⟩
abbrev fc86 (b : Nat) : Blk := .cells [.func (.func 86) #[pp b] #[]] 1 false true
section
variable (r f : Int) (off n c off2 m c2 : Nat) (cs cs2 : List Value) (own own2 : Bool) (x : Int)
theorem r61 (D : Dr r f) (a : Ab) (A : OkA a) (x0 : 0 ≤ x) (x1 : x ≤ 10000) (i : Nat) (p : Lim) :
    LL.rnd 0 [iv i, abV a] [.loop (lp61 1 3 4), fc86 2, limB p, c1 x, ptB r f 5 off n c 6 off2 m c2, .cells cs 3 true own, .cells cs2 1 true own2] =
      some ⟨.bool true, [], [(0, .loop (lp61 1 3 4)), (2, limB (vStep p (arLo r f a x) (arHi r f a x)))]⟩ := by
  have hk := fun b0 b1 b2 b3 b4 bx => k85 r f 5 off n c (h := b0 :: b1 :: b2 :: b3 :: b4 :: .cells cs 3 true own :: bx) (cs := cs) (own := own) D a A x x0 x1 rfl
  have hq := fun b0 b1 bx => k86 p (arLo r f a x) (arHi r f a x) (b := 2) (h := b0 :: b1 :: limB p :: bx) rfl
  generalize vStep p (arLo r f a x) (arHi r f a x) = q at *
  generalize arLo r f a x = lo at *
  generalize arHi r f a x = hi at *
  obtain ⟨ah, al, au⟩ := a
  rw [show LL = L Try.prog (wk.wtab.keep kpT) from rfl, L_rnd_eq]
  have e1 : codeB Try.prog LL ⟨61, 25, 7, some 0⟩ n61_11 ⟨[(16, abV ⟨ah, al, au⟩), (15, iv i), (6, pp 1), (3, pp 3), (2, pp 4)], [.loop (lp61 1 3 4), fc86 2, limB p, c1 x, ptB r f 5 off n c 6 off2 m c2, .cells cs 3 true own, .cells cs2 1 true own2], []⟩ =
      some (.normal, ⟨[(8, pp 7), (16, abV ⟨ah, al, au⟩), (15, iv i), (6, pp 1), (3, pp 3), (2, pp 4)], [.loop (lp61 1 3 4), fc86 2, limB p, c1 x, ptB r f 5 off n c 6 off2 m c2, .cells cs 3 true own, .cells cs2 1 true own2, abB ⟨ah, al, au⟩], []⟩) := by
    simp (maxSteps := 1000000) (disch := first | omega | decide | assumption | simp [scal]) [za_127, za_155, sz_155, loadA_eq ia_115, loadA_eq ia_3, za_59, sz_59, loadA_eq ia_155, o_fieldAddr fa_115_0 (by decide), loadA_eq ia_24, loadA_eq ia_59, loadA_eq ia_127, sz_127]
  have e2 : codeB Try.prog LL ⟨61, 25, 7, some 0⟩ n61_12 ⟨[(8, pp 7), (16, abV ⟨ah, al, au⟩), (15, iv i), (6, pp 1), (3, pp 3), (2, pp 4)], [.loop { lp61 1 3 4 with state := .busy }, fc86 2, limB p, c1 x, ptB r f 5 off n c 6 off2 m c2, .cells cs 3 true own, .cells cs2 1 true own2, abB ⟨ah, al, au⟩], [0]⟩ =
      some (.normal, ⟨[(8, pp 7), (16, abV ⟨ah, al, au⟩), (15, iv i), (6, pp 1), (3, pp 3), (2, pp 4)], [.loop { lp61 1 3 4 with state := .busy }, fc86 2, limB q, c1 x, ptB r f 5 off n c 6 off2 m c2, .cells cs 3 true own, .cells cs2 1 true own2, abB ⟨ah, al, au⟩], [0, 2]⟩) := by
    simp (maxSteps := 1000000) (disch := first | omega | decide | assumption | simp [scal]) [za_127, za_155, sz_155, loadA_eq ia_115, loadA_eq ia_3, za_59, sz_59, loadA_eq ia_155, o_fieldAddr fa_115_0 (by decide), loadA_eq ia_24, loadA_eq ia_59, loadA_eq ia_127, sz_127, hk, hq, callV_fc, addWr, ins]
  rw [rnd_step (lp := lp61 1 3 4) (l1 := lp61 1 3 4) (l2 := { lp61 1 3 4 with state := .busy }) rfl rfl rfl rfl rfl e1 rfl rfl e2 rfl]
  simp (maxSteps := 1000000) (disch := first | omega | decide | assumption | simp [scal]) [ins, lp61, limB, ptrB, renB]
end
end Go.Proofs.Ytiafgimgcbmgaaa.bl
namespace Go.Proofs.Ytiafgimgcbmgaaa.bl
open Go.GE
set_option linter.unusedVariables false
set_option linter.unusedSimpArgs false
set_option maxRecDepth 100000
set_option maxHeartbeats 4000000
attribute [local simp] runOps_nil runOps_cons runOpsF_nil runOpsF_cons fstS_some fstF_some opStep_eq want_none oStep_true oStep_false fin_pure fin_read fin_alloc fin_write storeB wrN cellV addWr o_move o_assign o_pick o_alloc o_box o_load o_store o_nilCheck o_bin o_un o_extract o_callV o_callB o_callI callV_f callV_y callV_fc o_makeFunc partsA Instr.fill builtin_len builtin_max2 bin_add bin_sub bin_mul bin_quo bin_rem bin_lss bin_leq bin_gtr bin_geq bin_eql bin_neq un_neg un_not bin_shr bin_shl wrap_u64_id opd opds optAll putO nbeq nblt constOk isC ops sub cl cr co bodyOf thenS_normal thenS_ret thenS_exit thenS_goto afterN_normal afterN_ret afterN_exit afterN_goto condS_true condS_false blockS_normal blockS_ret blockS_exit blockS_goto headS normS normK_eq fixS_nil fixS_cons fix1 fixV emptyB keepO_nil keepO_cons roundC_normal roundC_exit roundC_ret roundC_goto sweep_eq sweepD rnm pickR pickW rootsB ptrT renT ptrFn renFn ptrB_flat ptrB_non renB_flat renB_non plainS_some drawS_some fpsOk disj unord range' dropTo enumT undef wrap_i64_id Value.cells mkCells ptrTo scal cellsAt rdN endS_ret resultsA Option.bind_some tupV finish reachN dep ptrL_eq ptrL renL_eq renL ptrV_bool ptrV_int ptrV_string ptrV_nilFunc ptrV_nilIface ptrV_nilPtr ptrV_ptr ptrV_nilSl ptrV_sl ptrV_iface ptrV_agg ptrV_tuple ptrV_func renV_bool renV_int renV_string renV_nilFunc renV_nilIface renV_nilPtr renV_ptr renV_nilSl renV_sl renV_iface renV_agg renV_tuple renV_func gotoS_goto gotoS_normal gotoS_exit gotoS_ret skip_seq sliceE bnd bndHi intOf optOpd keepT_nil keepT_cons keepC_t keepC_f lk_nil lk_cons lkC_t lkC_f has_nil has_cons hasC_t hasC_f rep_nil rep_cons repC_t repC_f put_eq putC_t putC_f mem_nil mem_cons memC_t memC_f idx_nil idx_cons idxC_t idxC_f reach_nil reach_cons reachC_t reachC_f
attribute [local simp] n103_1s n103_5s n103_8s n103_9s n103_7s n103_13s n103_15s n103_17s n103_18s n103_16s n103_14s n103_12s n103_11s n103_19s n103_10s n103_6s n103_4s n103_3s n103_3g n103_2s n103_0s Try.f103
/-- the values at an hour, absolute by absolute of its part -/
def valL (r f : Int) (l : Nat → Ab) (m : Nat) (st : Nat → Int) (x : Int) (pt : Nat) : Nat → Nat → Lim → Lim
  | 0, _, p => p
  | k + 1, i, p => valL r f l m st x pt k (i + 1) (if partS m st (l i).h = pt then vStep p (arLo r f (l i) x) (arHi r f (l i) x) else p)
section
variable (r f : Int) (off n c off2 m c2 : Nat) (cs cs2 : List Value) (own own2 : Bool) (x : Int)
theorem y103v (D : Dr r f) (a : Ab) (A : OkA a) (x0 : 0 ≤ x) (x1 : x ≤ 10000) (i : Nat) (p : Lim) (rest : List Blk) :
    yieldH LL 0 [iv i, abV a] (.loop (lp61 1 3 4) :: fc86 2 :: limB p :: c1 x :: ptB r f 5 off n c 6 off2 m c2 :: .cells cs 3 true own :: .cells cs2 1 true own2 :: rest) =
      some ⟨.bool true, .loop (lp61 1 3 4) :: fc86 2 :: limB (vStep p (arLo r f a x) (arHi r f a x)) :: c1 x :: ptB r f 5 off n c 6 off2 m c2 :: .cells cs 3 true own :: .cells cs2 1 true own2 :: rest, [0, 1, 2, 3, 4, 5, 6], [0, 2]⟩ := by
  have e := r61 r f off n c off2 m c2 cs cs2 own own2 x D a A x0 x1 i p
  generalize vStep p (arLo r f a x) (arHi r f a x) = q at *
  have hm : ∀ k : Nat, 20 < k → reach (.loop (lp61 1 3 4) :: fc86 2 :: limB p :: c1 x :: ptB r f 5 off n c 6 off2 m c2 :: .cells cs 3 true own :: .cells cs2 1 true own2 :: rest) 0 k [0] [] = [0, 1, 2, 3, 4, 5, 6] := by
    intro k hk
    obtain ⟨k, rfl⟩ : ∃ j, k = j + 20 := ⟨k - 20, by omega⟩
    simp [reach_cons, reachC_t, reachC_f, reach_nil, rootsB, GE.mem, nblt, nbeq, ptrB, lp61, limB, ptrT, ptrV_ptr, ptrV_sl, ptrV_int, ptrV_func, ptrFn, ptrL, dep]
  unfold yieldH
  have hp : 0 :: ([iv i, abV a] : List Value).flatMap (ptrV dep) = [0] := rfl
  have hr : ∀ g, optAll (renV g dep) [iv i, abV a] = some [iv i, abV a] := fun _ => rfl
  simp only [hp, hm reachN (by decide), hr]
  simp only [lp61, limB] at e ⊢
  simp [optAll, renB, renT, renV_ptr, renV_sl, renV_int, renV_func, renFn, renL, dep, idx, nbeq, e, mergeB, renV_bool, nblt]
variable (l : Nat → Ab) (st : Nat → Int)
theorem l103v (S : Sht r f n l) (hc : AbC cs off n l) (hc2 : IvC cs2 off2 m st) (ha : Asc m st) (hm : m ≤ 1000) (x0 : 0 ≤ x) (x1 : x ≤ 10000) (pt : Nat) : ∀ q i : Nat, i + q = n → ∀ W p, (W = [] ∨ W = [0, 2]) → ∃ W', (W' = [] ∨ W' = [0, 2]) ∧ (W = [0, 2] → W' = [0, 2]) ∧ (W' = [] → valL r f l m st x pt q i p = p) ∧
    lpB Try.prog LL ⟨103, 29, 9, none⟩ n103_3 n103_4 ⟨[(0, .func (.yield 0) #[] #[]), (1, pp 7), (2, pp 8), (8, stV 5 off n c), (9, iv n), (10, iv i)], [.loop (lp61 1 3 4), fc86 2, limB p, c1 x, ptB r f 5 off n c 6 off2 m c2, .cells cs 3 true own, .cells cs2 1 true own2, ptB r f 5 off n c 6 off2 m c2, c1 pt], W⟩ =
      some (.exit 0, ⟨[], [.loop (lp61 1 3 4), fc86 2, limB (valL r f l m st x pt q i p), c1 x, ptB r f 5 off n c 6 off2 m c2, .cells cs 3 true own, .cells cs2 1 true own2, ptB r f 5 off n c 6 off2 m c2, c1 pt], W'⟩) := by
  have hn := S.n40
  intro q
  induction q with
  | zero =>
    intro i hi W p hW
    obtain rfl : i = n := by omega
    refine ⟨W, hW, fun h => h, fun _ => rfl, ?_⟩
    rw [lpB_eq]
    simp only [lp61, limB, valL]
    rcases hW with rfl | rfl <;>
    simp (maxSteps := 1000000) (disch := first | omega | decide | assumption | simp [scal]) [o_fieldAddr fa_115_0 (by decide), o_fieldAddr fa_24_2 (by decide), loadA_eq ia_22, lenA_sl lk_22, o_indexAddrS es_22, loadA_eq ia_59, za_59, sz_59, loadA_eq ia_115, o_fieldAddr fa_59_0 (by decide), loadA_eq ia_3, want_some q103_15g6, ptrB, renB]
  | succ q ih =>
    intro i hi W p hW
    have e1 : i < n := by omega
    obtain ⟨p2, p3, p4⟩ := hc i e1
    have a1 := fun b0 b1 b2 b3 b4 bx => k88 r f 5 off n c 6 off2 m c2 (h := b0 :: b1 :: b2 :: b3 :: b4 :: .cells cs 3 true own :: .cells cs2 1 true own2 :: bx) (cs := cs) (cs2 := cs2) rfl rfl (by decide) hc2 ha hm (l i).h
    have a2 := y103v r f off n c off2 m c2 cs cs2 own own2 x S.dr (l i) (S.ok i e1) x0 x1 i p
    by_cases w1 : partS m st (l i).h = pt
    · have w1' : (partS m st (l i).h : Int) = pt := by rw [w1]
      have hv : valL r f l m st x pt (q + 1) i p = valL r f l m st x pt q (i + 1) (vStep p (arLo r f (l i) x) (arHi r f (l i) x)) := by simp only [valL]; rw [if_pos w1]
      obtain ⟨W', hW', hz, _, this⟩ := ih (i + 1) (by omega) [0, 2] (vStep p (arLo r f (l i) x) (arHi r f (l i) x)) (.inr rfl)
      obtain rfl := hz rfl
      refine ⟨[0, 2], .inr rfl, fun _ => rfl, fun h => by simp at h, ?_⟩
      rw [hv, lpB_eq]
      generalize vStep p (arLo r f (l i) x) (arHi r f (l i) x) = p' at *
      simp only [cast1, lp61, limB] at this a2 ⊢
      rcases hW with rfl | rfl <;>
      simp (maxSteps := 1000000) (disch := first | omega | decide | assumption | simp [scal]) [o_fieldAddr fa_115_0 (by decide), o_fieldAddr fa_24_2 (by decide), loadA_eq ia_22, lenA_sl lk_22, o_indexAddrS es_22, loadA_eq ia_59, za_59, sz_59, loadA_eq ia_115, o_fieldAddr fa_59_0 (by decide), loadA_eq ia_3, want_some q103_15g6, ptrB, renB, e1, p2, p3, p4, a1, a2, eq_true w1', addWr, ins, this]
    · have w1' : ¬ (partS m st (l i).h : Int) = pt := by omega
      have hv : valL r f l m st x pt (q + 1) i p = valL r f l m st x pt q (i + 1) p := by simp only [valL]; rw [if_neg w1]
      obtain ⟨W', hW', hy, hz, this⟩ := ih (i + 1) (by omega) W p hW
      refine ⟨W', hW', hy, fun h => by rw [hv]; exact hz h, ?_⟩
      rw [hv, lpB_eq]
      simp only [cast1, lp61, limB] at this ⊢
      rcases hW with rfl | rfl <;>
      simp (maxSteps := 1000000) (disch := first | omega | decide | assumption | simp [scal]) [o_fieldAddr fa_115_0 (by decide), o_fieldAddr fa_24_2 (by decide), loadA_eq ia_22, lenA_sl lk_22, o_indexAddrS es_22, loadA_eq ia_59, za_59, sz_59, loadA_eq ia_115, o_fieldAddr fa_59_0 (by decide), loadA_eq ia_3, want_some q103_15g6, ptrB, renB, e1, p2, p3, p4, a1, w1', addWr, ins, this]
end
end Go.Proofs.Ytiafgimgcbmgaaa.bl
namespace Go.Proofs.Ytiafgimgcbmgaaa.bl
open Go.GE
set_option linter.unusedVariables false
set_option linter.unusedSimpArgs false
set_option maxRecDepth 100000
set_option maxHeartbeats 4000000
attribute [local simp] runOps_nil runOps_cons runOpsF_nil runOpsF_cons fstS_some fstF_some opStep_eq want_none oStep_true oStep_false fin_pure fin_read fin_alloc fin_write storeB wrN cellV addWr o_move o_assign o_pick o_alloc o_box o_load o_store o_nilCheck o_bin o_un o_extract o_callV o_callB o_callI callV_f callV_y callV_fc o_makeFunc partsA Instr.fill builtin_len builtin_max2 bin_add bin_sub bin_mul bin_quo bin_rem bin_lss bin_leq bin_gtr bin_geq bin_eql bin_neq un_neg un_not bin_shr bin_shl wrap_u64_id opd opds optAll putO nbeq nblt constOk isC ops sub cl cr co bodyOf thenS_normal thenS_ret thenS_exit thenS_goto afterN_normal afterN_ret afterN_exit afterN_goto condS_true condS_false blockS_normal blockS_ret blockS_exit blockS_goto headS normS normK_eq fixS_nil fixS_cons fix1 fixV emptyB keepO_nil keepO_cons roundC_normal roundC_exit roundC_ret roundC_goto sweep_eq sweepD rnm pickR pickW rootsB ptrT renT ptrFn renFn ptrB_flat ptrB_non renB_flat renB_non plainS_some drawS_some fpsOk disj unord range' dropTo enumT undef wrap_i64_id Value.cells mkCells ptrTo scal cellsAt rdN endS_ret resultsA Option.bind_some tupV finish reachN dep ptrL_eq ptrL renL_eq renL ptrV_bool ptrV_int ptrV_string ptrV_nilFunc ptrV_nilIface ptrV_nilPtr ptrV_ptr ptrV_nilSl ptrV_sl ptrV_iface ptrV_agg ptrV_tuple ptrV_func renV_bool renV_int renV_string renV_nilFunc renV_nilIface renV_nilPtr renV_ptr renV_nilSl renV_sl renV_iface renV_agg renV_tuple renV_func gotoS_goto gotoS_normal gotoS_exit gotoS_ret skip_seq sliceE bnd bndHi intOf optOpd keepT_nil keepT_cons keepC_t keepC_f lk_nil lk_cons lkC_t lkC_f has_nil has_cons hasC_t hasC_f rep_nil rep_cons repC_t repC_f put_eq putC_t putC_f mem_nil mem_cons memC_t memC_f idx_nil idx_cons idxC_t idxC_f reach_nil reach_cons reachC_t reachC_f
attribute [local simp] n103_1s n103_5s n103_8s n103_9s n103_7s n103_13s n103_15s n103_17s n103_18s n103_16s n103_14s n103_12s n103_11s n103_19s n103_10s n103_6s n103_4s n103_3s n103_3g n103_2s n103_0s Try.f103 n61_1s n61_3s n61_5s n61_8s n61_11s n61_13s n61_12s n61_9s n61_7s n61_15s n61_16s n61_14s n61_6s n61_4s n61_2s n61_0s Try.f61
def valS (r f : Int) (n : Nat) (l : Nat → Ab) (m : Nat) (st : Nat → Int) (x : Int) : Lim := valL r f l m st x (partS m st x) n 0 (0, 0, false)
abbrev limV (p : Lim) : Value := .agg #[iv p.1, iv p.2.1, .bool p.2.2]
section
variable (r f : Int) (off n c off2 m c2 : Nat) (cs cs2 : List Value) (own own2 : Bool) (x : Int) (l : Nat → Ab) (st : Nat → Int)
theorem c103v (S : Sht r f n l) (hc : AbC cs off n l) (hc2 : IvC cs2 off2 m st) (ha : Asc m st) (hm : m ≤ 1000) (x0 : 0 ≤ x) (x1 : x ≤ 10000) (pt : Nat) (p : Lim) :
    ∃ ws, (ws = [(0, .loop (lp61 1 3 4)), (2, limB (valL r f l m st x pt n 0 p))] ∨ (ws = [] ∧ valL r f l m st x pt n 0 p = p)) ∧
      LL.run 103 [.func (.yield 0) #[] #[], pp 7, pp 8] [.loop (lp61 1 3 4), fc86 2, limB p, c1 x, ptB r f 5 off n c 6 off2 m c2, .cells cs 3 true own, .cells cs2 1 true own2, ptB r f 5 off n c 6 off2 m c2, c1 pt] = some ⟨.tuple #[], [], ws⟩ := by
  obtain ⟨W, hW, _, hz, this⟩ := l103v r f off n c off2 m c2 cs cs2 own own2 x l st S hc hc2 ha hm x0 x1 pt n 0 (by omega) [] p (.inl rfl)
  simp only [Int.natCast_zero] at this
  rcases hW with rfl | rfl
  · refine ⟨[], .inr ⟨rfl, hz rfl⟩, go (by decide) ?_⟩
    rw [run103 _ _ _ (by simp)]
    simp only [lp61, limB] at this ⊢
    simp (maxSteps := 1000000) (disch := first | omega | decide | assumption | simp [scal]) [o_fieldAddr fa_115_0 (by decide), o_fieldAddr fa_24_2 (by decide), loadA_eq ia_22, lenA_sl lk_22, o_indexAddrS es_22, loadA_eq ia_59, za_59, sz_59, loadA_eq ia_115, o_fieldAddr fa_59_0 (by decide), loadA_eq ia_3, want_some q103_15g6, ptrB, renB, this, endS_normal]
  · refine ⟨_, .inl rfl, go (by decide) ?_⟩
    rw [run103 _ _ _ (by simp)]
    simp only [lp61, limB] at this ⊢
    simp (maxSteps := 1000000) (disch := first | omega | decide | assumption | simp [scal]) [o_fieldAddr fa_115_0 (by decide), o_fieldAddr fa_24_2 (by decide), loadA_eq ia_22, lenA_sl lk_22, o_indexAddrS es_22, loadA_eq ia_59, za_59, sz_59, loadA_eq ia_115, o_fieldAddr fa_59_0 (by decide), loadA_eq ia_3, want_some q103_15g6, ptrB, renB, this, endS_normal]
theorem h103v (S : Sht r f n l) (hc : AbC cs off n l) (hc2 : IvC cs2 off2 m st) (ha : Asc m st) (hm : m ≤ 1000) (x0 : 0 ≤ x) (x1 : x ≤ 10000) (pt : Nat) (b4 : Blk) (p : Lim) : ∃ W, (W = [] ∨ W = [9, 5]) ∧
    callH LL 103 [.func (.yield 9) #[] #[], pp 7, pp 8] [.cells cs 3 true own, .cells cs2 1 true own2, ptB r f 0 off n c 1 off2 m c2, c1 x, b4, limB p, fc86 5, ptB r f 0 off n c 1 off2 m c2, c1 pt, .loop (lp61 6 3 2)] =
      some ⟨.tuple #[], [.cells cs 3 true own, .cells cs2 1 true own2, ptB r f 0 off n c 1 off2 m c2, c1 x, b4, limB (valL r f l m st x pt n 0 p), fc86 5, ptB r f 0 off n c 1 off2 m c2, c1 pt, .loop (lp61 6 3 2)], [9, 6, 5, 3, 2, 0, 1, 7, 8], W⟩ := by
  have hm2 : ∀ q : Nat, 20 < q → reach [.cells cs 3 true own, .cells cs2 1 true own2, ptB r f 0 off n c 1 off2 m c2, c1 x, b4, limB p, fc86 5, ptB r f 0 off n c 1 off2 m c2, c1 pt, .loop (lp61 6 3 2)] 0 q [9, 7, 8] [] = [9, 6, 5, 3, 2, 0, 1, 7, 8] := by
    intro q hq
    obtain ⟨q, rfl⟩ : ∃ j, q = j + 20 := ⟨q - 20, by omega⟩
    simp [reach_cons, reachC_t, reachC_f, reach_nil, rootsB, GE.mem, nblt, nbeq, ptrB, lp61, limB, ptrT, ptrV_ptr, ptrV_sl, ptrV_int, ptrV_func, ptrFn, ptrL, dep]
  have hp : ([.func (.yield 9) #[] #[], pp 7, pp 8] : List Value).flatMap (ptrV dep) = [9, 7, 8] := rfl
  obtain ⟨ws, hws, e⟩ := c103v r f off n c off2 m c2 cs cs2 own own2 x l st S hc hc2 ha hm x0 x1 pt p
  have key : callH0 LL 103 [.func (.yield 9) #[] #[], pp 7, pp 8] [.cells cs 3 true own, .cells cs2 1 true own2, ptB r f 0 off n c 1 off2 m c2, c1 x, b4, limB p, fc86 5, ptB r f 0 off n c 1 off2 m c2, c1 pt, .loop (lp61 6 3 2)] =
      mergeB [.cells cs 3 true own, .cells cs2 1 true own2, ptB r f 0 off n c 1 off2 m c2, c1 x, b4, limB p, fc86 5, ptB r f 0 off n c 1 off2 m c2, c1 pt, .loop (lp61 6 3 2)] [9, 6, 5, 3, 2, 0, 1, 7, 8] ⟨.tuple #[], [], ws⟩ := by
    unfold callH0
    simp only [hp, hm2 reachN (by decide)]
    simp only [lp61, limB] at e ⊢
    simp [optAll, renV_func, renFn, renL, renV_ptr, dep, idx, nbeq, renB, renT, renL_eq, renV_int, renV_sl, renV_bool, e]
  rcases hws with rfl | ⟨rfl, hz⟩
  · refine ⟨[9, 5], .inr rfl, callH_of (by intro _; first | trivial | rfl) ?_ (by simp)⟩
    rw [key]
    simp only [lp61, limB]
    simp [mergeB, renV_tuple, renL, dep, optAll, renB, renT, renV_ptr, nblt]
  · refine ⟨[], .inl rfl, callH_of (by intro _; first | trivial | rfl) ?_ (by simp)⟩
    rw [key, hz]
    simp only [lp61, limB]
    simp [mergeB, renV_tuple, renL, dep, optAll, renB, renT, renV_ptr, nblt]
theorem c61 (S : Sht r f n l) (hc : AbC cs off n l) (hc2 : IvC cs2 off2 m st) (ha : Asc m st) (hm : m ≤ 1000) (x0 : 0 ≤ x) (x1 : x ≤ 10000) :
    LL.run 61 [ptV r f 0 off n c 1 off2 m c2, iv x] [.cells cs 3 true own, .cells cs2 1 true own2] = some ⟨limV (valS r f n l m st x), [], []⟩ := by
  refine go (by decide) ?_
  rw [run61 _ _ _ (by simp)]
  have a1 := fun bx => k88 r f 0 off n c 1 off2 m c2 (h := .cells cs 3 true own :: .cells cs2 1 true own2 :: bx) (cs := cs) (cs2 := cs2) rfl rfl (by decide) hc2 ha hm x
  have a2 := k87 r f off n c off2 m c2 cs cs2 own own2 (partS m st x)
  obtain ⟨W, hW, a3⟩ := h103v r f off n c off2 m c2 cs cs2 own own2 x l st S hc hc2 ha hm x0 x1 (partS m st x) (limB (0, 0, false)) (0, 0, false)
  simp (maxSteps := 1000000) (disch := first | omega | decide | assumption | simp [scal]) [za_127, za_155, sz_155, loadA_eq ia_115, loadA_eq ia_3, za_59, sz_59, loadA_eq ia_155, o_fieldAddr fa_115_0 (by decide), loadA_eq ia_24, loadA_eq ia_59, loadA_eq ia_127, sz_127, a1, a2]
  rw [range_step n61_10e n61_10k rfl]
  rw [← valS] at a3
  generalize valS r f n l m st x = q at *
  simp only [lp61, limB] at a3
  simp (maxSteps := 1000000) (disch := first | omega | decide | assumption | simp [scal]) [za_127, za_155, sz_155, loadA_eq ia_115, loadA_eq ia_3, za_59, sz_59, loadA_eq ia_155, o_fieldAddr fa_115_0 (by decide), loadA_eq ia_24, loadA_eq ia_59, loadA_eq ia_127, sz_127, a3]
  rw [rangeE_ready rfl rfl rfl]
  rcases hW with rfl | rfl <;>
  simp (maxSteps := 1000000) (disch := first | omega | decide | assumption | simp [scal]) [za_127, za_155, sz_155, loadA_eq ia_115, loadA_eq ia_3, za_59, sz_59, loadA_eq ia_155, o_fieldAddr fa_115_0 (by decide), loadA_eq ia_24, loadA_eq ia_59, loadA_eq ia_127, sz_127, addWr]
end
end Go.Proofs.Ytiafgimgcbmgaaa.bl
namespace Go.Proofs.Ytiafgimgcbmgaaa.bl
open Go.GE
set_option linter.unusedVariables false
set_option linter.unusedSimpArgs false
set_option maxRecDepth 100000
set_option maxHeartbeats 4000000
abbrev spB (a b : Int) : Blk := .cells [iv a, iv b] 1 true true
theorem vStep_new (lo hi : Int) (a b : Int) : vStep (a, b, false) lo hi = (lo, hi, true) := rfl
theorem vStep_old (lo hi : Int) (a b : Int) : vStep (a, b, true) lo hi = (if a < lo then lo else a, if hi < b then hi else b, true) := rfl
end Go.Proofs.Ytiafgimgcbmgaaa.bl
namespace Go.Proofs.Ytiafgimgcbmgaaa.bl
open Go.GE
set_option linter.unusedVariables false
set_option linter.unusedSimpArgs false
set_option maxRecDepth 100000
set_option maxHeartbeats 4000000
attribute [local simp] runOps_nil runOps_cons runOpsF_nil runOpsF_cons fstS_some fstF_some opStep_eq want_none oStep_true oStep_false fin_pure fin_read fin_alloc fin_write storeB wrN cellV addWr o_move o_assign o_pick o_alloc o_box o_load o_store o_nilCheck o_bin o_un o_extract o_callV o_callB o_callI callV_f callV_y callV_fc o_makeFunc partsA Instr.fill builtin_len builtin_max2 bin_add bin_sub bin_mul bin_quo bin_rem bin_lss bin_leq bin_gtr bin_geq bin_eql bin_neq un_neg un_not bin_shr bin_shl wrap_u64_id opd opds optAll putO nbeq nblt constOk isC ops sub cl cr co bodyOf thenS_normal thenS_ret thenS_exit thenS_goto afterN_normal afterN_ret afterN_exit afterN_goto condS_true condS_false blockS_normal blockS_ret blockS_exit blockS_goto headS normS normK_eq fixS_nil fixS_cons fix1 fixV emptyB keepO_nil keepO_cons roundC_normal roundC_exit roundC_ret roundC_goto sweep_eq sweepD rnm pickR pickW rootsB ptrT renT ptrFn renFn ptrB_flat ptrB_non renB_flat renB_non plainS_some drawS_some fpsOk disj unord range' dropTo enumT undef wrap_i64_id Value.cells mkCells ptrTo scal cellsAt rdN endS_ret resultsA Option.bind_some tupV finish reachN dep ptrL_eq ptrL renL_eq renL ptrV_bool ptrV_int ptrV_string ptrV_nilFunc ptrV_nilIface ptrV_nilPtr ptrV_ptr ptrV_nilSl ptrV_sl ptrV_iface ptrV_agg ptrV_tuple ptrV_func renV_bool renV_int renV_string renV_nilFunc renV_nilIface renV_nilPtr renV_ptr renV_nilSl renV_sl renV_iface renV_agg renV_tuple renV_func gotoS_goto gotoS_normal gotoS_exit gotoS_ret skip_seq sliceE bnd bndHi intOf optOpd keepT_nil keepT_cons keepC_t keepC_f lk_nil lk_cons lkC_t lkC_f has_nil has_cons hasC_t hasC_f rep_nil rep_cons repC_t repC_f put_eq putC_t putC_f mem_nil mem_cons memC_t memC_f idx_nil idx_cons idxC_t idxC_f reach_nil reach_cons reachC_t reachC_f
attribute [local simp] n29_1s n29_3s n29_7s n29_10s n29_11s n29_9s n29_13s n29_16s n29_17s n29_15s n29_18s n29_14s n29_12s n29_8s n29_6s n29_5s n29_20s n29_23s n29_26s n29_27s n29_25s n29_28s n29_24s n29_22s n29_30s n29_31s n29_29s n29_21s n29_19s n29_4s n29_2s n29_0s Try.f29
theorem sv_ren (r f : Int) (b1 off n c b2 off2 m c2 : Nat) (x : Int) (hne : b1 ≠ b2) : optAll (renV (idx [b1, b2]) dep) [shV r f b1 off n c, stV b2 off2 m c2, iv x] = some [shV r f 0 off n c, stV 1 off2 m c2, iv x] := by simp [renV, dep, optAll, idx, nbeq, hne, hne.symm]
noncomputable def valE (r f : Int) (n : Nat) (l : Nat → Ab) (m : Nat) (st : Nat → Int) (x : Int) : Int :=
  if expE r f n l m st ≠ 0 then expE r f n l m st else if (decide (0 ≤ x) && decide (x ≤ 10000)) = false then 1 else if (valS r f n l m st x).2.2 = false then 14 else 0
noncomputable def valP (r f : Int) (n : Nat) (l : Nat → Ab) (m : Nat) (st : Nat → Int) (x : Int) : Int × Int :=
  if valE r f n l m st x = 0 then ((valS r f n l m st x).1, (valS r f n l m st x).2.1) else (0, 0)
theorem exp_ok {r f : Int} {n : Nat} {l : Nat → Ab} {m : Nat} {st : Nat → Int} (h : expE r f n l m st = 0) : Sht r f n l ∧ Asc m st ∧ m ≤ 40 := by
  unfold expE at h
  split at h
  · rename_i h1; exact absurd h h1
  · rename_i h1; exact ptd_chk (by simpa using h1)
section
variable (r f : Int) (b1 off n c b2 off2 m c2 : Nat) {cs cs2 : List Value} {own own2 : Bool} {l : Nat → Ab} {st : Nat → Int} (x : Int) {h : List Blk}
theorem k61 (S : Sht r f n l) (hb : h[b1]? = some (.cells cs 3 true own)) (hb2 : h[b2]? = some (.cells cs2 1 true own2)) (hne : b1 ≠ b2) (hc : AbC cs off n l) (hc2 : IvC cs2 off2 m st) (ha : Asc m st) (hm : m ≤ 1000) (x0 : 0 ≤ x) (x1 : x ≤ 10000) :
    callH LL 61 [ptV r f b1 off n c b2 off2 m c2, iv x] h = some ⟨limV (valS r f n l m st x), h, [b1, b2], []⟩ :=
  callH_2 rfl hb hb2 hne noIdB_flat noIdB_flat (args' := [ptV r f 0 off n c 1 off2 m c2, iv x]) (by simp [renV, dep, optAll, idx, nbeq, hne, hne.symm]) (c61 r f off n c off2 m c2 cs cs2 own own2 x l st S hc hc2 ha hm x0 x1) fun _ => rfl
end
section
variable (r f : Int) (off n c off2 m c2 : Nat) (cs cs2 : List Value) (own own2 : Bool) (x : Int) (l : Nat → Ab) (st : Nat → Int)
theorem c29 (hc : AbC cs off n l) (hc2 : IvC cs2 off2 m st) : LL.run 29 [shV r f 0 off n c, stV 1 off2 m c2, iv x] [.cells cs 3 true own, .cells cs2 1 true own2] = some ⟨.tuple #[.agg #[iv (valP r f n l m st x).1, iv (valP r f n l m st x).2], iv (valE r f n l m st x)], [], []⟩ := by
  refine go (by decide) ?_
  rw [run29 _ _ _ (by simp)]
  by_cases he : expE r f n l m st = 0
  · have a := fun bx => k53a r f 0 off n c 1 off2 m c2 (h := .cells cs 3 true own :: .cells cs2 1 true own2 :: bx) rfl rfl (by decide) hc hc2 he
    obtain ⟨S, ha, hm⟩ := exp_ok he
    cases hx : (decide (0 ≤ x) && decide (x ≤ 10000))
    · have h1 : valE r f n l m st x = 1 := by unfold valE; rw [if_neg (by simp [he]), if_pos hx]
      have h2 : valP r f n l m st x = (0, 0) := by unfold valP; rw [if_neg (by rw [h1]; decide)]
      rw [h1, h2]
      simp (maxSteps := 1000000) (disch := first | omega | decide | assumption | simp [scal]) [za_57, loadA_eq ia_24, za_115, sz_115, o_build za_57 pl_57, sz_57, loadA_eq ia_115, za_127, sz_127, o_fieldAddr fa_127_1 (by decide), loadA_eq ia_4, o_fieldAddr fa_127_0 (by decide), loadA_eq ia_57, loadA_eq ia_127, a, k56, hx]
    · have hx' := hx
      simp only [Bool.and_eq_true, decide_eq_true_eq] at hx'
      have a2 := fun bx => k61 r f 0 off n c 1 off2 m c2 x (h := .cells cs 3 true own :: .cells cs2 1 true own2 :: bx) S rfl rfl (by decide) hc hc2 ha (by omega) hx'.1 hx'.2
      cases hk : (valS r f n l m st x).2.2
      · have h1 : valE r f n l m st x = 14 := by unfold valE; rw [if_neg (by simp [he]), if_neg (by simp [hx]), if_pos hk]
        have h2 : valP r f n l m st x = (0, 0) := by unfold valP; rw [if_neg (by rw [h1]; decide)]
        rw [h1, h2]
        generalize valS r f n l m st x = q at *
        obtain ⟨q1, q2, q3⟩ := q
        simp only at hk
        subst hk
        simp (maxSteps := 1000000) (disch := first | omega | decide | assumption | simp [scal]) [za_57, loadA_eq ia_24, za_115, sz_115, o_build za_57 pl_57, sz_57, loadA_eq ia_115, za_127, sz_127, o_fieldAddr fa_127_1 (by decide), loadA_eq ia_4, o_fieldAddr fa_127_0 (by decide), loadA_eq ia_57, loadA_eq ia_127, a, k56, hx, a2]
      · have h1 : valE r f n l m st x = 0 := by unfold valE; rw [if_neg (by simp [he]), if_neg (by simp [hx]), if_neg (by simp [hk])]
        have h2 : valP r f n l m st x = ((valS r f n l m st x).1, (valS r f n l m st x).2.1) := by unfold valP; rw [if_pos h1]
        rw [h1, h2]
        generalize valS r f n l m st x = q at *
        obtain ⟨q1, q2, q3⟩ := q
        simp only at hk
        subst hk
        simp (maxSteps := 1000000) (disch := first | omega | decide | assumption | simp [scal]) [za_57, loadA_eq ia_24, za_115, sz_115, o_build za_57 pl_57, sz_57, loadA_eq ia_115, za_127, sz_127, o_fieldAddr fa_127_1 (by decide), loadA_eq ia_4, o_fieldAddr fa_127_0 (by decide), loadA_eq ia_57, loadA_eq ia_127, a, k56, hx, a2]
  · have a := fun bx => k53b r f 0 off n c 1 off2 m c2 (h := .cells cs 3 true own :: .cells cs2 1 true own2 :: bx) rfl rfl (by decide) hc hc2 he
    have h1 : valE r f n l m st x = expE r f n l m st := by unfold valE; rw [if_pos he]
    have h2 : valP r f n l m st x = (0, 0) := by unfold valP; rw [if_neg (by rw [h1]; exact he)]
    rw [h1, h2]
    simp (maxSteps := 1000000) (disch := first | omega | decide | assumption | simp [scal]) [za_57, loadA_eq ia_24, za_115, sz_115, o_build za_57 pl_57, sz_57, loadA_eq ia_115, za_127, sz_127, o_fieldAddr fa_127_1 (by decide), loadA_eq ia_4, o_fieldAddr fa_127_0 (by decide), loadA_eq ia_57, loadA_eq ia_127, a, he]
end
end Go.Proofs.Ytiafgimgcbmgaaa.bl
namespace Go.Proofs.Ytiafgimgcbmgaaa.bl
open Go.GE
set_option linter.unusedVariables false
set_option linter.unusedSimpArgs false
set_option maxRecDepth 100000
set_option maxHeartbeats 4000000
attribute [local simp] runOps_nil runOps_cons runOpsF_nil runOpsF_cons fstS_some fstF_some opStep_eq want_none oStep_true oStep_false fin_pure fin_read fin_alloc fin_write storeB wrN cellV addWr o_move o_assign o_pick o_alloc o_box o_load o_store o_nilCheck o_bin o_un o_extract o_callV o_callB o_callI callV_f callV_y callV_fc o_makeFunc partsA Instr.fill builtin_len builtin_max2 bin_add bin_sub bin_mul bin_quo bin_rem bin_lss bin_leq bin_gtr bin_geq bin_eql bin_neq un_neg un_not bin_shr bin_shl wrap_u64_id opd opds optAll putO nbeq nblt constOk isC ops sub cl cr co bodyOf thenS_normal thenS_ret thenS_exit thenS_goto afterN_normal afterN_ret afterN_exit afterN_goto condS_true condS_false blockS_normal blockS_ret blockS_exit blockS_goto headS normS normK_eq fixS_nil fixS_cons fix1 fixV emptyB keepO_nil keepO_cons roundC_normal roundC_exit roundC_ret roundC_goto sweep_eq sweepD rnm pickR pickW rootsB ptrT renT ptrFn renFn ptrB_flat ptrB_non renB_flat renB_non plainS_some drawS_some fpsOk disj unord range' dropTo enumT undef wrap_i64_id Value.cells mkCells ptrTo scal cellsAt rdN endS_ret resultsA Option.bind_some tupV finish reachN dep ptrL_eq ptrL renL_eq renL ptrV_bool ptrV_int ptrV_string ptrV_nilFunc ptrV_nilIface ptrV_nilPtr ptrV_ptr ptrV_nilSl ptrV_sl ptrV_iface ptrV_agg ptrV_tuple ptrV_func renV_bool renV_int renV_string renV_nilFunc renV_nilIface renV_nilPtr renV_ptr renV_nilSl renV_sl renV_iface renV_agg renV_tuple renV_func gotoS_goto gotoS_normal gotoS_exit gotoS_ret skip_seq sliceE bnd bndHi intOf optOpd keepT_nil keepT_cons keepC_t keepC_f lk_nil lk_cons lkC_t lkC_f has_nil has_cons hasC_t hasC_f rep_nil rep_cons repC_t repC_f put_eq putC_t putC_f mem_nil mem_cons memC_t memC_f idx_nil idx_cons idxC_t idxC_f reach_nil reach_cons reachC_t reachC_f
attribute [local simp] n71_1s n71_3s n71_4s n71_2s n71_0s Try.f71 n70_1s n70_3s n70_6s n70_10s n70_13s n70_14s n70_12s n70_18s n70_19s n70_17s n70_16s n70_20s n70_15s n70_11s n70_9s n70_8s n70_8g n70_7s n70_5s n70_22s n70_23s n70_21s n70_4s n70_2s n70_0s Try.f70 n34_1s n34_3s n34_6s n34_9s n34_10s n34_8s n34_11s n34_7s n34_5s n34_13s n34_14s n34_12s n34_4s n34_2s n34_0s Try.f34
/-- the highest values at the hours of the absolutes -/
def higL (r f : Int) (n : Nat) (l : Nat → Ab) (m : Nat) (st : Nat → Int) (i : Nat) : List Int := (List.range i).map fun i => (valS r f n l m st (l i).h).2.1
noncomputable def higR (r f : Int) (n : Nat) (l : Nat → Ab) (m : Nat) (st : Nat → Int) : List Int := if expE r f n l m st = 0 then higL r f n l m st n else []
theorem higL_succ {r f : Int} {n : Nat} {l : Nat → Ab} {m : Nat} {st : Nat → Int} {i : Nat} : higL r f n l m st (i + 1) = higL r f n l m st i ++ [(valS r f n l m st (l i).h).2.1] := by simp [higL, List.range_succ]
theorem higL_len {r f : Int} {n : Nat} {l : Nat → Ab} {m : Nat} {st : Nat → Int} {i : Nat} : (higL r f n l m st i).length = i := by simp [higL]
abbrev cl71 (b : Nat) : Value := .func (.func 71) #[] #[pp b]
section
variable (r f : Int) (off n c off2 m c2 : Nat) (cs cs2 : List Value) (own own2 : Bool) (l : Nat → Ab) (st : Nat → Int)
theorem k71 (S : Sht r f n l) (hc : AbC cs off n l) (hc2 : IvC cs2 off2 m st) (ha : Asc m st) (hm : m ≤ 1000) (a : Ab) (A : OkA a) (rest : List Blk) :
    callH LL 71 [abV a, pp 1] (.cells cs 3 true own :: ptB r f 0 off n c 2 off2 m c2 :: .cells cs2 1 true own2 :: rest) = some ⟨iv (valS r f n l m st a.h).2.1, .cells cs 3 true own :: ptB r f 0 off n c 2 off2 m c2 :: .cells cs2 1 true own2 :: rest, [1, 0, 2], []⟩ := by
  have e : LL.run 71 [abV a, pp 0] [ptB r f 1 off n c 2 off2 m c2, .cells cs 3 true own, .cells cs2 1 true own2] = some ⟨iv (valS r f n l m st a.h).2.1, [], []⟩ := by
    refine go (by decide) ?_
    rw [run71 _ _ _ (by simp)]
    have a1 := fun b0 bx => k61 r f 1 off n c 2 off2 m c2 a.h (h := b0 :: .cells cs 3 true own :: .cells cs2 1 true own2 :: bx) S rfl rfl (by decide) hc hc2 ha hm A.h0 A.h1
    simp (maxSteps := 1000000) (disch := first | omega | decide | assumption | simp [scal]) [loadA_eq ia_115, o_fieldAddr fa_59_0 (by decide), loadA_eq ia_3, o_fieldK fk_127_0, o_fieldK fk_57_1, a1]
  refine callH_of (by intro _; first | trivial | rfl) ?_ (by simp)
  unfold callH0
  have hp : ([abV a, pp 1] : List Value).flatMap (ptrV dep) = [1] := rfl
  have hm : ∀ q : Nat, 20 < q → reach (.cells cs 3 true own :: ptB r f 0 off n c 2 off2 m c2 :: .cells cs2 1 true own2 :: rest) 0 q [1] [] = [1, 0, 2] := by
    intro q hq
    obtain ⟨q, rfl⟩ : ∃ j, q = j + 20 := ⟨q - 20, by omega⟩
    simp [reach_cons, reachC_t, reachC_f, reach_nil, rootsB, GE.mem, nblt, nbeq, ptrB, ptrV_sl, ptrV_int, dep]
  simp only [hp, hm reachN (by decide)]
  simp [optAll, renL, renV_ptr, dep, idx, nbeq, renB, renL_eq, renV_int, renV_sl, renV_agg, e, mergeB]
theorem l70 (S : Sht r f n l) (hc : AbC cs off n l) (hc2 : IvC cs2 off2 m st) (ha : Asc m st) (hm : m ≤ 1000) : ∀ k i : Nat, i + k = n →
    lpB Try.prog LL ⟨70, 22, 3, none⟩ n70_8 n70_9 ⟨[(1, cl71 1), (5, wh 3 i), (8, stV 0 off n c), (9, iv n), (10, iv i)], [.cells cs 3 true own, ptB r f 0 off n c 2 off2 m c2, .cells cs2 1 true own2, iB (higL r f n l m st i)], []⟩ =
      some (.exit 0, ⟨[(5, wh 3 n)], [.cells cs 3 true own, ptB r f 0 off n c 2 off2 m c2, .cells cs2 1 true own2, iB (higL r f n l m st n)], []⟩) := by
  have hn := S.n40
  intro k
  induction k with
  | zero =>
    intro i hi
    obtain rfl : i = n := by omega
    rw [lpB_eq]
    simp only [iB]
    simp (maxSteps := 1000000) (disch := first | omega | decide | assumption | simp [scal]) [lenA_sl lk_22, o_indexAddrS es_22, loadA_eq ia_59, za_59, sz_59, o_indexAddrS es_25, ze_25, o_buildSlice es_25 ze_25 (by decide) ba_25_1, ap_25, builtin_append ni_25]
  | succ k ih =>
    intro i hi
    have e1 : i < n := by omega
    have this := ih (i + 1) (by omega)
    obtain ⟨p2, p3, p4⟩ := hc i e1
    have a1 := k71 r f off n c off2 m c2 cs cs2 own own2 l st S hc hc2 ha hm (l i) (S.ok i e1)
    have hlen := higL_len (r := r) (f := f) (n := n) (l := l) (m := m) (st := st) (i := i)
    rw [higL_succ] at this
    rw [lpB_eq]
    generalize valS r f n l m st (l i).h = q at *
    generalize higL r f n l m st i = o at *
    have c1 := fun h b c rd => app_list (h := h) (b := b) (c := c) (k := 1) (by' := 8) (l := i) (cs := o.map iv) (new := [iv q.2.1]) (rd := rd) (by simp [hlen]) (by omega) (by omega) rfl
    simp only [cast1, iB, List.map_append, List.map_cons, List.map_nil] at this ⊢
    simp (maxSteps := 1000000) (disch := first | omega | decide | assumption | simp [scal]) [lenA_sl lk_22, o_indexAddrS es_22, loadA_eq ia_59, za_59, sz_59, o_indexAddrS es_25, ze_25, o_buildSlice es_25 ze_25 (by decide) ba_25_1, ap_25, builtin_append ni_25, e1, p2, p3, p4, a1, append_some ap_25, srcCells, c1, this]
theorem k70 (S : Sht r f n l) (hc : AbC cs off n l) (hc2 : IvC cs2 off2 m st) (ha : Asc m st) (hm : m ≤ 1000) (b2 : Blk) (rest : List Blk) :
    callH LL 70 [stV 0 off n c, cl71 3] (.cells cs 3 true own :: .cells cs2 1 true own2 :: b2 :: ptB r f 0 off n c 1 off2 m c2 :: rest) =
      some ⟨wh (rest.length + 4) n, .cells cs 3 true own :: .cells cs2 1 true own2 :: b2 :: ptB r f 0 off n c 1 off2 m c2 :: (rest ++ [iB (higL r f n l m st n)]), [0, 3, 1], []⟩ := by
  have e : LL.run 70 [stV 0 off n c, cl71 1] [.cells cs 3 true own, ptB r f 0 off n c 2 off2 m c2, .cells cs2 1 true own2] = some ⟨wh 3 n, [iB (higL r f n l m st n)], []⟩ := by
    refine go (by decide) ?_
    rw [run70 _ _ _ (by simp)]
    have this := l70 r f off n c off2 m c2 cs cs2 own own2 l st S hc hc2 ha hm n 0 (by omega)
    have h0 : higL r f n l m st 0 = [] := rfl
    rw [h0] at this
    simp only [Int.natCast_zero, iB, List.map_nil] at this ⊢
    simp (maxSteps := 1000000) (disch := first | omega | decide | assumption | simp [scal]) [lenA_sl lk_22, o_indexAddrS es_22, loadA_eq ia_59, za_59, sz_59, o_indexAddrS es_25, ze_25, o_buildSlice es_25 ze_25 (by decide) ba_25_1, ap_25, builtin_append ni_25, this]
  refine callH_of (by intro _; first | trivial | rfl) ?_ (by simp)
  unfold callH0
  have hp : ([stV 0 off n c, cl71 3] : List Value).flatMap (ptrV dep) = [0, 3] := rfl
  have hm : ∀ q : Nat, 20 < q → reach (.cells cs 3 true own :: .cells cs2 1 true own2 :: b2 :: ptB r f 0 off n c 1 off2 m c2 :: rest) 0 q [0, 3] [] = [0, 3, 1] := by
    intro q hq
    obtain ⟨q, rfl⟩ : ∃ j, q = j + 20 := ⟨q - 20, by omega⟩
    simp [reach_cons, reachC_t, reachC_f, reach_nil, rootsB, GE.mem, nblt, nbeq, ptrB, ptrV_sl, ptrV_int, dep]
  simp only [hp, hm reachN (by decide)]
  simp only [iB] at e ⊢
  simp [optAll, renL, renV_ptr, renV_func, renFn, dep, idx, nbeq, renB, renL_eq, renV_int, renV_sl, renV_agg, e, mergeB, nblt]
theorem c34 (hc : AbC cs off n l) (hc2 : IvC cs2 off2 m st) : LL.run 34 [shV r f 0 off n c, stV 1 off2 m c2] [.cells cs 3 true own, .cells cs2 1 true own2] = some ⟨.tuple #[wh 2 (higR r f n l m st).length, iv (expE r f n l m st)], [iB (higR r f n l m st)], []⟩ := by
  refine go (by decide) ?_
  rw [run34 _ _ _ (by simp)]
  unfold higR
  by_cases he : expE r f n l m st = 0
  · have a := fun bx => k53a r f 0 off n c 1 off2 m c2 (h := .cells cs 3 true own :: .cells cs2 1 true own2 :: bx) rfl rfl (by decide) hc hc2 he
    obtain ⟨S, ha, hm⟩ := exp_ok he
    rw [if_pos he, higL_len]
    have a2 := k70 r f off n c off2 m c2 cs cs2 own own2 l st S hc hc2 ha (by omega)
    simp only [iB] at a2 ⊢
    simp (maxSteps := 1000000) (disch := first | omega | decide | assumption | simp [scal]) [loadA_eq ia_24, za_115, sz_115, o_fieldAddr fa_24_2 (by decide), loadA_eq ia_22, loadA_eq ia_115, a, he, a2]
  · have a := fun bx => k53b r f 0 off n c 1 off2 m c2 (h := .cells cs 3 true own :: .cells cs2 1 true own2 :: bx) rfl rfl (by decide) hc hc2 he
    rw [if_neg he]
    simp only [iB]
    simp (maxSteps := 1000000) (disch := first | omega | decide | assumption | simp [scal]) [loadA_eq ia_24, za_115, sz_115, o_fieldAddr fa_24_2 (by decide), loadA_eq ia_22, loadA_eq ia_115, a, he]
end
end Go.Proofs.Ytiafgimgcbmgaaa.bl
namespace Go.Proofs.Ytiafgimgcbmgaaa.bl
open Go.GE
set_option linter.unusedVariables false
set_option linter.unusedSimpArgs false
set_option maxRecDepth 100000
set_option maxHeartbeats 4000000
section
variable (r f : Int) (b1 off n c b2 off2 m c2 : Nat) {cs cs2 : List Value} {own own2 : Bool} {l : Nat → Ab} {st : Nat → Int} (x : Int) {h : List Blk}
theorem k29 (hb : h[b1]? = some (.cells cs 3 true own)) (hb2 : h[b2]? = some (.cells cs2 1 true own2)) (hne : b1 ≠ b2) (hc : AbC cs off n l) (hc2 : IvC cs2 off2 m st) :
    callH LL 29 [shV r f b1 off n c, stV b2 off2 m c2, iv x] h = some ⟨.tuple #[.agg #[iv (valP r f n l m st x).1, iv (valP r f n l m st x).2], iv (valE r f n l m st x)], h, [b1, b2], []⟩ :=
  callH_2 rfl hb hb2 hne noIdB_flat noIdB_flat (sv_ren r f b1 off n c b2 off2 m c2 x hne) (c29 r f off n c off2 m c2 cs cs2 own own2 x l st hc hc2) fun _ => rfl
theorem kList {F : FuncId} {y : List Int} {e : Int} (hb : h[b1]? = some (.cells cs 3 true own)) (hb2 : h[b2]? = some (.cells cs2 1 true own2)) (hne : b1 ≠ b2)
    (he : LL.run F [shV r f 0 off n c, stV 1 off2 m c2] [.cells cs 3 true own, .cells cs2 1 true own2] = some ⟨.tuple #[wh 2 y.length, iv e], [iB y], []⟩) (hk : idle LL F [shV r f b1 off n c, stV b2 off2 m c2]) :
    callH LL F [shV r f b1 off n c, stV b2 off2 m c2] h = some ⟨.tuple #[wh h.length y.length, iv e], h ++ [iB y], [b1, b2], []⟩ :=
  callN_2 rfl hb hb2 hne noIdB_flat noIdB_flat (ss_ren r f b1 off n c b2 off2 m c2 hne) he (by intro b hb; simp at hb; subst hb; exact iB_noId) (by simp [renV, dep, nblt, optAll]) hk
end
end Go.Proofs.Ytiafgimgcbmgaaa.bl
namespace Go.Proofs.Ytiafgimgcbmgaaa.bl
open Go.GE
set_option linter.unusedVariables false
set_option linter.unusedSimpArgs false
set_option maxRecDepth 100000
set_option maxHeartbeats 4000000
theorem clash_iff {r f : Int} {n : Nat} {l : Nat → Ab} {m : Nat} {st : Nat → Int} {out : Int} : clashS r f n l m st out = true ↔ ∃ i k : Nat, i < k ∧ k < n ∧ (i : Int) ≠ out ∧ (k : Int) ≠ out ∧ partS m st (l i).h = partS m st (l k).h ∧ needS r f (l i) (l k) = true := by
  unfold clashS
  simp only [anyF_iff, badB, Bool.and_eq_true, Bool.not_eq_true', decide_eq_true_eq, decide_eq_false_iff_not]
  constructor
  · rintro ⟨i, _, hi, k, h0, hk, ⟨⟨h3, h4⟩, h1⟩, h5⟩
    exact ⟨i, k, by omega, by omega, h3, h4, h1, h5⟩
  · rintro ⟨i, k, h0, hk, h3, h4, h1, h5⟩
    exact ⟨i, by omega, by omega, k, by omega, by omega, ⟨⟨h3, h4⟩, h1⟩, h5⟩
theorem part_mono {m : Nat} {st : Nat → Int} (ha : Asc m st) {x y : Int} (h : x ≤ y) : partS m st x ≤ partS m st y := by
  apply Classical.byContradiction
  intro hn
  have hl := part_le (m := m) (st := st) (x := x)
  have h1 : partS m st y < m := by omega
  have h2 := (part_iff ha x h1).2 (by omega)
  have h3 := (part_iff ha y h1).1 (by omega)
  omega
end Go.Proofs.Ytiafgimgcbmgaaa.bl
namespace Go.Proofs.Ytiafgimgcbmgaaa.bl
open Go.GE
set_option linter.unusedVariables false
set_option linter.unusedSimpArgs false
set_option maxRecDepth 100000
set_option maxHeartbeats 4000000
attribute [local simp] runOps_nil runOps_cons runOpsF_nil runOpsF_cons fstS_some fstF_some opStep_eq want_none oStep_true oStep_false fin_pure fin_read fin_alloc fin_write storeB wrN cellV addWr o_move o_assign o_pick o_alloc o_box o_load o_store o_nilCheck o_bin o_un o_extract o_callV o_callB o_callI callV_f callV_y callV_fc o_makeFunc partsA Instr.fill builtin_len builtin_max2 bin_add bin_sub bin_mul bin_quo bin_rem bin_lss bin_leq bin_gtr bin_geq bin_eql bin_neq un_neg un_not bin_shr bin_shl wrap_u64_id opd opds optAll putO nbeq nblt constOk isC ops sub cl cr co bodyOf thenS_normal thenS_ret thenS_exit thenS_goto afterN_normal afterN_ret afterN_exit afterN_goto condS_true condS_false blockS_normal blockS_ret blockS_exit blockS_goto headS normS normK_eq fixS_nil fixS_cons fix1 fixV emptyB keepO_nil keepO_cons roundC_normal roundC_exit roundC_ret roundC_goto sweep_eq sweepD rnm pickR pickW rootsB ptrT renT ptrFn renFn ptrB_flat ptrB_non renB_flat renB_non plainS_some drawS_some fpsOk disj unord range' dropTo enumT undef wrap_i64_id Value.cells mkCells ptrTo scal cellsAt rdN endS_ret resultsA Option.bind_some tupV finish reachN dep ptrL_eq ptrL renL_eq renL ptrV_bool ptrV_int ptrV_string ptrV_nilFunc ptrV_nilIface ptrV_nilPtr ptrV_ptr ptrV_nilSl ptrV_sl ptrV_iface ptrV_agg ptrV_tuple ptrV_func renV_bool renV_int renV_string renV_nilFunc renV_nilIface renV_nilPtr renV_ptr renV_nilSl renV_sl renV_iface renV_agg renV_tuple renV_func gotoS_goto gotoS_normal gotoS_exit gotoS_ret skip_seq sliceE bnd bndHi intOf optOpd keepT_nil keepT_cons keepC_t keepC_f lk_nil lk_cons lkC_t lkC_f has_nil has_cons hasC_t hasC_f rep_nil rep_cons repC_t repC_f put_eq putC_t putC_f mem_nil mem_cons memC_t memC_f idx_nil idx_cons idxC_t idxC_f reach_nil reach_cons reachC_t reachC_f
attribute [local simp] n39_1s n39_3s n39_6s n39_11s n39_13s n39_14s n39_12s n39_10s n39_18s n39_20s n39_21s n39_19s n39_17s n39_16s n39_22s n39_15s n39_9s n39_8s n39_8g n39_7s n39_5s n39_24s n39_25s n39_23s n39_4s n39_2s n39_0s Try.f39 n43_1s n43_3s n43_4s n43_2s n43_0s Try.f43
theorem bin_and1 {P : Program} {t : TypeId} {c : Bool} {w : Nat} (h : w < 2 ^ 62) : binA P .and t c (.int .i64 (w : Int)) (.int .i64 1) = some (.int .i64 ((w % 2 : Nat) : Int)) := by
  have e : (BitVec.ofInt 64 (w : Int) &&& BitVec.ofInt 64 1).toNat = w % 2 := by
    rw [BitVec.ofInt_natCast]
    rw [show BitVec.ofInt 64 1 = BitVec.ofNat 64 1 from rfl, BitVec.toNat_and, BitVec.toNat_ofNat, BitVec.toNat_ofNat, Nat.mod_eq_of_lt (show w < 2 ^ 64 from Nat.lt_trans h (by decide)), Nat.mod_eq_of_lt (by decide : 1 < 2 ^ 64), Nat.and_one_is_mod]
  have e' : IntKind.i64.wrap ((BitVec.ofInt 64 (w : Int) &&& BitVec.ofInt 64 1).toNat : Int) = ((w % 2 : Nat) : Int) := by rw [e]; exact wrap_i64_id (by omega) (by omega)
  show some (Value.int .i64 (IntKind.i64.wrap ((BitVec.ofInt 64 (w : Int) &&& BitVec.ofInt 64 1).toNat : Int))) = _
  rw [e']
theorem fdiv_pow {w i : Nat} (hi : i < 64) : ((w : Int).fdiv (2 ^ min i IntKind.i64.bits)) = ((w / 2 ^ i : Nat) : Int) := by
  rw [show min i IntKind.i64.bits = i from Nat.min_eq_left (Nat.le_of_lt hi), Int.fdiv_eq_ediv_of_nonneg _ (by exact_mod_cast Nat.zero_le _)]
  simp
/-- the hours of a number's bits -/
def setL (w i : Nat) : List Int := ((List.range i).filter fun (h : Nat) => decide (w / 2 ^ h % 2 = 1)).map fun (h : Nat) => (h : Int)
theorem setL_len {w i : Nat} : (setL w i).length ≤ i := by
  unfold setL
  rw [List.length_map]
  have := List.length_filter_le (fun (h : Nat) => decide (w / 2 ^ h % 2 = 1)) (List.range i)
  simpa using this
theorem setL_succ {w i : Nat} : setL w (i + 1) = if w / 2 ^ i % 2 = 1 then setL w i ++ [(i : Int)] else setL w i := by
  unfold setL
  rw [List.range_succ, List.filter_append, List.filter_cons]
  by_cases h : w / 2 ^ i % 2 = 1 <;> simp [h]
theorem l39 (w : Nat) (hw : w < 1024) : ∀ k i : Nat, i + k = 9 →
    lpB Try.prog LL ⟨39, 19, 0, none⟩ n39_8 n39_9 ⟨[(0, iv w), (3, wh 0 (setL w i).length), (4, iv i)], [iB (setL w i)], []⟩ =
      some (.exit 0, ⟨[(3, wh 0 (setL w 9).length)], [iB (setL w 9)], []⟩) := by
  intro k
  induction k with
  | zero =>
    intro i hi
    obtain rfl : i = 9 := by omega
    rw [lpB_eq]
    simp only [iB]
    simp (maxSteps := 1000000) (disch := first | omega | decide | assumption | simp [scal]) [o_indexAddrS es_25, ze_25, o_buildSlice es_25 ze_25 (by decide) ba_25_1, ap_25, builtin_append ni_25]
  | succ k ih =>
    intro i hi
    have e1 : (i : Int) < 9 := by omega
    have this := ih (i + 1) (by omega)
    have hlen := setL_len (w := w) (i := i)
    have e2 := @fdiv_pow w i (by omega)
    have hq : w / 2 ^ i < 2 ^ 62 := by have := Nat.div_le_self w (2 ^ i); omega
    have e3 := fun c => @bin_and1 Try.prog 3 c _ hq
    rw [setL_succ] at this
    rw [lpB_eq]
    generalize setL w 9 = fin at *
    generalize setL w i = o at *
    generalize w / 2 ^ i = q at *
    have c1 := fun h b c rd => app_list (h := h) (b := b) (c := c) (k := 1) (by' := 8) (l := o.length) (cs := o.map iv) (new := [iv i]) (rd := rd) (by simp) (by omega) (by omega) rfl
    simp only [cast1, iB] at this ⊢
    by_cases w1 : q % 2 = 1
    · have w1' : ((q : Int) % 2 = 1) := by omega
      have w1'' := eq_true w1'
      rw [if_pos w1] at this
      simp only [List.map_append, List.map_cons, List.map_nil, List.length_append, List.length_cons, List.length_nil, Nat.zero_add] at this
      simp (maxSteps := 1000000) (disch := first | omega | decide | assumption | simp [scal]) [o_indexAddrS es_25, ze_25, o_buildSlice es_25 ze_25 (by decide) ba_25_1, ap_25, builtin_append ni_25, e1, e2, e3, w1'', append_some ap_25, srcCells, c1, this]
    · have w1' : ¬ ((q : Int) % 2 = 1) := by omega
      rw [if_neg w1] at this
      simp (maxSteps := 1000000) (disch := first | omega | decide | assumption | simp [scal]) [o_indexAddrS es_25, ze_25, o_buildSlice es_25 ze_25 (by decide) ba_25_1, ap_25, builtin_append ni_25, e1, e2, e3, w1', this]
theorem c39 (w : Nat) (hw : w < 1024) : LL.run 39 [iv w] [] = some ⟨wh 0 (setL w 9).length, [iB (setL w 9)], []⟩ := by
  refine go (by decide) ?_
  rw [run39 _ _ _ (by simp)]
  have this := l39 w hw 9 0 (by omega)
  have h0 : setL w 0 = [] := rfl
  rw [h0] at this
  generalize setL w 9 = fin at *
  simp only [Int.natCast_zero, iB, List.map_nil, List.length_nil] at this ⊢
  simp (maxSteps := 1000000) (disch := first | omega | decide | assumption | simp [scal]) [o_indexAddrS es_25, ze_25, o_buildSlice es_25 ze_25 (by decide) ba_25_1, ap_25, builtin_append ni_25, this]
theorem k39 (w : Nat) (hw : w < 1024) (h : List Blk) : callH LL 39 [iv w] h = some ⟨wh h.length (setL w 9).length, h ++ [iB (setL w 9)], [], []⟩ :=
  callN_none rfl (fun _ => rfl) (c39 w hw) (by intro b hb; simp at hb; subst hb; exact iB_noId) (by simp [renV, dep, nblt, optAll])
theorem c43 (a b c : Int) : LL.run 43 [iv a, iv b, iv c] [] = some ⟨.agg #[iv a, iv b, iv c], [], []⟩ := by
  refine go (by decide) ?_
  rw [run43 _ _ _ (by simp)]
  simp (maxSteps := 1000000) (disch := first | omega | decide | assumption | simp [scal]) [za_59, za_57, o_build za_57 pl_57, o_build za_59 pl_59, sz_59, loadA_eq ia_59]
theorem k43 (a b c : Int) (h : List Blk) : callH LL 43 [iv a, iv b, iv c] h = some ⟨.agg #[iv a, iv b, iv c], h, [], []⟩ :=
  callH_plain (c43 a b c) rfl rfl
end Go.Proofs.Ytiafgimgcbmgaaa.bl
namespace Go.Proofs.Ytiafgimgcbmgaaa.bl
open Go.GE
set_option linter.unusedVariables false
set_option linter.unusedSimpArgs false
set_option maxRecDepth 100000
set_option maxHeartbeats 4000000
attribute [local simp] runOps_nil runOps_cons runOpsF_nil runOpsF_cons fstS_some fstF_some opStep_eq want_none oStep_true oStep_false fin_pure fin_read fin_alloc fin_write storeB wrN cellV addWr o_move o_assign o_pick o_alloc o_box o_load o_store o_nilCheck o_bin o_un o_extract o_callV o_callB o_callI callV_f callV_y callV_fc o_makeFunc partsA Instr.fill builtin_len builtin_max2 bin_add bin_sub bin_mul bin_quo bin_rem bin_lss bin_leq bin_gtr bin_geq bin_eql bin_neq un_neg un_not bin_shr bin_shl wrap_u64_id opd opds optAll putO nbeq nblt constOk isC ops sub cl cr co bodyOf thenS_normal thenS_ret thenS_exit thenS_goto afterN_normal afterN_ret afterN_exit afterN_goto condS_true condS_false blockS_normal blockS_ret blockS_exit blockS_goto headS normS normK_eq fixS_nil fixS_cons fix1 fixV emptyB keepO_nil keepO_cons roundC_normal roundC_exit roundC_ret roundC_goto sweep_eq sweepD rnm pickR pickW rootsB ptrT renT ptrFn renFn ptrB_flat ptrB_non renB_flat renB_non plainS_some drawS_some fpsOk disj unord range' dropTo enumT undef wrap_i64_id Value.cells mkCells ptrTo scal cellsAt rdN endS_ret resultsA Option.bind_some tupV finish reachN dep ptrL_eq ptrL renL_eq renL ptrV_bool ptrV_int ptrV_string ptrV_nilFunc ptrV_nilIface ptrV_nilPtr ptrV_ptr ptrV_nilSl ptrV_sl ptrV_iface ptrV_agg ptrV_tuple ptrV_func renV_bool renV_int renV_string renV_nilFunc renV_nilIface renV_nilPtr renV_ptr renV_nilSl renV_sl renV_iface renV_agg renV_tuple renV_func gotoS_goto gotoS_normal gotoS_exit gotoS_ret skip_seq sliceE bnd bndHi intOf optOpd keepT_nil keepT_cons keepC_t keepC_f lk_nil lk_cons lkC_t lkC_f has_nil has_cons hasC_t hasC_f rep_nil rep_cons repC_t repC_f put_eq putC_t putC_f mem_nil mem_cons memC_t memC_f idx_nil idx_cons idxC_t idxC_f reach_nil reach_cons reachC_t reachC_f
attribute [local simp] n38_1s n38_3s n38_5s n38_8s n38_13s n38_15s n38_16s n38_14s n38_12s n38_20s n38_22s n38_23s n38_21s n38_19s n38_18s n38_24s n38_17s n38_11s n38_10s n38_10g n38_9s n38_7s n38_27s n38_29s n38_30s n38_28s n38_26s n38_32s n38_33s n38_31s n38_25s n38_6s n38_4s n38_2s n38_0s Try.f38
abbrev uv (n : Nat) : Value := .int .u8 (n : Int)
abbrev trV (a b : Nat) (b0 off n c : Nat) : Value := .agg #[uv a, uv b, .slice (some ⟨b0, off, none⟩) n c]
abbrev trB (a b : Nat) (b0 off n c : Nat) : Blk := .cells [uv a, uv b, .slice (some ⟨b0, off, none⟩) n c] 1 false true
/-- the cells of a trace's absolutes -/
def TrC (cs : List Value) (off n : Nat) (g : Nat → Nat × Nat × Nat) : Prop := ∀ i, i < n → (cs[off + i * 3]? = some (uv (g i).1) ∧ cs[off + i * 3 + 1]? = some (uv (g i).2.1) ∧ cs[off + i * 3 + 2]? = some (uv (g i).2.2)) ∧ (g i).1 < 256 ∧ (g i).2.1 < 256 ∧ (g i).2.2 < 256
/-- what 'made' makes of a trace: k absolutes still to come, i met, at hour h -/
def madA (g : Nat → Nat × Nat × Nat) (i h : Nat) : Ab := ⟨(h : Int), ((g i).2.1 : Int) % 16, ((g i).2.1 : Int) % 16 + ((g i).2.2 : Int) % 4⟩
def madL (g : Nat → Nat × Nat × Nat) : Nat → Nat → Nat → List Ab
  | 0, _, _ => []
  | k + 1, i, h => if h < 9 then madA g i h :: madL g k (i + 1) (h + (1 + (g i).1 % 3)) else []
theorem tm4 {z : Nat} : ((z : Int).tmod 4) = (z : Int) % 4 := Int.tmod_eq_emod_of_nonneg (by omega)
theorem tm3 {z : Nat} : ((z : Int).tmod 3) = (z : Int) % 3 := Int.tmod_eq_emod_of_nonneg (by omega)
theorem tm16 {z : Nat} : ((z : Int).tmod 16) = (z : Int) % 16 := Int.tmod_eq_emod_of_nonneg (by omega)
section
variable (a b off n c : Nat) {cs : List Value} {own : Bool} {g : Nat → Nat × Nat × Nat}
theorem l38 (hc : TrC cs off n g) : ∀ (q i h : Nat) (A : List Ab), i + q = min n 5 → h < 100 → A.length = i →
    lpB Try.prog LL ⟨38, 79, 1, none⟩ n38_10 n38_11 ⟨[(1, pp 1), (2, pp 2), (3, pp 4), (4, iv h), (5, iv i)], [.cells cs 3 true own, trB a b 0 off n c, shB 0 0 3 0 0 0, E3, shB ((a : Int) % 4) ((b : Int) % 4) 5 0 i i, .cells (A.flatMap abG) 3 true true], []⟩ =
      some (.exit 0, ⟨[(2, pp 1), (3, pp 3)], [.cells cs 3 true own, shB 0 0 2 0 0 0, E3, shB ((a : Int) % 4) ((b : Int) % 4) 4 0 (A ++ madL g q i h).length (A ++ madL g q i h).length, .cells ((A ++ madL g q i h).flatMap abG) 3 true true], []⟩) := by
  intro q
  induction q with
  | zero =>
    intro i h A hi hh hA
    rw [lpB_eq]
    simp only [madL, List.append_nil, hA]
    by_cases e1 : i < n
    · have e2 : ¬ i < 5 := by omega
      have e3 : ¬ (i : Int) < 5 := by omega
      simp (maxSteps := 1000000) (disch := first | omega | decide | assumption | simp [scal]) [za_24, o_fieldAddr fa_75_0 (by decide), loadA_eq ia_5, o_convI cv_5_3, o_fieldAddr fa_75_1 (by decide), o_build za_24 pl_24, sz_24, o_fieldAddr fa_75_2 (by decide), loadA_eq ia_73, lenA_sl lk_73, o_indexAddrS es_73, o_indexAddrA ea_88, o_fieldAddr fa_24_2 (by decide), loadA_eq ia_22, o_indexAddrS es_22, ze_22, o_buildSlice es_22 ze_22 (by decide) ba_22_1, ap_22, builtin_append ni_22, sz_22, lenA_sl lk_22, loadA_eq ia_24, want_some q38_13g5, want_some q38_13g9, e1, e3]
    · simp (maxSteps := 1000000) (disch := first | omega | decide | assumption | simp [scal]) [za_24, o_fieldAddr fa_75_0 (by decide), loadA_eq ia_5, o_convI cv_5_3, o_fieldAddr fa_75_1 (by decide), o_build za_24 pl_24, sz_24, o_fieldAddr fa_75_2 (by decide), loadA_eq ia_73, lenA_sl lk_73, o_indexAddrS es_73, o_indexAddrA ea_88, o_fieldAddr fa_24_2 (by decide), loadA_eq ia_22, o_indexAddrS es_22, ze_22, o_buildSlice es_22 ze_22 (by decide) ba_22_1, ap_22, builtin_append ni_22, sz_22, lenA_sl lk_22, loadA_eq ia_24, want_some q38_13g5, want_some q38_13g9, e1]
  | succ q ih =>
    intro i h A hi hh hA
    have e1 : i < n := by omega
    have e3 : (i : Int) < 5 := by omega
    rw [lpB_eq]
    simp only [madL]
    by_cases e4 : h < 9
    · have e5 : (h : Int) < 9 := by omega
      rw [if_pos e4]
      obtain ⟨⟨p2, p3, p4⟩, g1, g2, g3⟩ := hc _ e1
      have this := ih (i + 1) (h + (1 + (g i).1 % 3)) (A ++ [madA g i h]) (by omega) (by omega) (by simp [hA])
      have c1 := fun hp b c rd => app_list (h := hp) (b := b) (c := c) (k := 3) (by' := 24) (l := i) (cs := A.flatMap abG) (new := abG (madA g i h)) (rd := rd) (by rw [← hA]; exact flat_len (k := 3) (fun _ => rfl)) (by omega) (by omega) rfl
      rw [List.append_assoc, List.singleton_append] at this
      generalize A ++ madA g i h :: madL g q (i + 1) (h + (1 + (g i).1 % 3)) = F at *
      simp only [List.flatMap_append, List.flatMap_cons, List.flatMap_nil, List.append_nil] at this ⊢
      rw [show abG (madA g i h) = [iv h, iv (((g i).2.1 : Int) % 16), iv (((g i).2.1 : Int) % 16 + ((g i).2.2 : Int) % 4)] from rfl] at this c1
      generalize g i = y at *
      obtain ⟨y0, y1, y2⟩ := y
      simp only [Int.natCast_add, Int.natCast_emod, Int.cast_ofNat_Int, Int.natCast_one] at this
      simp only [] at c1 p2 p3 p4 g1 g2 g3
      simp (maxSteps := 1000000) (disch := first | omega | decide | assumption | simp [scal]) [za_24, o_fieldAddr fa_75_0 (by decide), loadA_eq ia_5, o_convI cv_5_3, o_fieldAddr fa_75_1 (by decide), o_build za_24 pl_24, sz_24, o_fieldAddr fa_75_2 (by decide), loadA_eq ia_73, lenA_sl lk_73, o_indexAddrS es_73, o_indexAddrA ea_88, o_fieldAddr fa_24_2 (by decide), loadA_eq ia_22, o_indexAddrS es_22, ze_22, o_buildSlice es_22 ze_22 (by decide) ba_22_1, ap_22, builtin_append ni_22, sz_22, lenA_sl lk_22, loadA_eq ia_24, want_some q38_13g5, want_some q38_13g9, e1, e3, e5, p2, p3, p4, k43, tm4, tm3, tm16, append_some ap_22, srcCells, c1, this]
    · have e5 : ¬ (h : Int) < 9 := by omega
      rw [if_neg e4, List.append_nil, hA]
      simp (maxSteps := 1000000) (disch := first | omega | decide | assumption | simp [scal]) [za_24, o_fieldAddr fa_75_0 (by decide), loadA_eq ia_5, o_convI cv_5_3, o_fieldAddr fa_75_1 (by decide), o_build za_24 pl_24, sz_24, o_fieldAddr fa_75_2 (by decide), loadA_eq ia_73, lenA_sl lk_73, o_indexAddrS es_73, o_indexAddrA ea_88, o_fieldAddr fa_24_2 (by decide), loadA_eq ia_22, o_indexAddrS es_22, ze_22, o_buildSlice es_22 ze_22 (by decide) ba_22_1, ap_22, builtin_append ni_22, sz_22, lenA_sl lk_22, loadA_eq ia_24, want_some q38_13g5, want_some q38_13g9, e1, e3, e5]
end
end Go.Proofs.Ytiafgimgcbmgaaa.bl
namespace Go.Proofs.Ytiafgimgcbmgaaa.bl
open Go.GE
set_option linter.unusedVariables false
set_option linter.unusedSimpArgs false
set_option maxRecDepth 100000
set_option maxHeartbeats 4000000
attribute [local simp] runOps_nil runOps_cons runOpsF_nil runOpsF_cons fstS_some fstF_some opStep_eq want_none oStep_true oStep_false fin_pure fin_read fin_alloc fin_write storeB wrN cellV addWr o_move o_assign o_pick o_alloc o_box o_load o_store o_nilCheck o_bin o_un o_extract o_callV o_callB o_callI callV_f callV_y callV_fc o_makeFunc partsA Instr.fill builtin_len builtin_max2 bin_add bin_sub bin_mul bin_quo bin_rem bin_lss bin_leq bin_gtr bin_geq bin_eql bin_neq un_neg un_not bin_shr bin_shl wrap_u64_id opd opds optAll putO nbeq nblt constOk isC ops sub cl cr co bodyOf thenS_normal thenS_ret thenS_exit thenS_goto afterN_normal afterN_ret afterN_exit afterN_goto condS_true condS_false blockS_normal blockS_ret blockS_exit blockS_goto headS normS normK_eq fixS_nil fixS_cons fix1 fixV emptyB keepO_nil keepO_cons roundC_normal roundC_exit roundC_ret roundC_goto sweep_eq sweepD rnm pickR pickW rootsB ptrT renT ptrFn renFn ptrB_flat ptrB_non renB_flat renB_non plainS_some drawS_some fpsOk disj unord range' dropTo enumT undef wrap_i64_id Value.cells mkCells ptrTo scal cellsAt rdN endS_ret resultsA Option.bind_some tupV finish reachN dep ptrL_eq ptrL renL_eq renL ptrV_bool ptrV_int ptrV_string ptrV_nilFunc ptrV_nilIface ptrV_nilPtr ptrV_ptr ptrV_nilSl ptrV_sl ptrV_iface ptrV_agg ptrV_tuple ptrV_func renV_bool renV_int renV_string renV_nilFunc renV_nilIface renV_nilPtr renV_ptr renV_nilSl renV_sl renV_iface renV_agg renV_tuple renV_func gotoS_goto gotoS_normal gotoS_exit gotoS_ret skip_seq sliceE bnd bndHi intOf optOpd keepT_nil keepT_cons keepC_t keepC_f lk_nil lk_cons lkC_t lkC_f has_nil has_cons hasC_t hasC_f rep_nil rep_cons repC_t repC_f put_eq putC_t putC_f mem_nil mem_cons memC_t memC_f idx_nil idx_cons idxC_t idxC_f reach_nil reach_cons reachC_t reachC_f
attribute [local simp] n38_1s n38_3s n38_5s n38_8s n38_13s n38_15s n38_16s n38_14s n38_12s n38_20s n38_22s n38_23s n38_21s n38_19s n38_18s n38_24s n38_17s n38_11s n38_10s n38_10g n38_9s n38_7s n38_27s n38_29s n38_30s n38_28s n38_26s n38_32s n38_33s n38_31s n38_25s n38_6s n38_4s n38_2s n38_0s Try.f38
theorem chkL_of {l : Nat → Ab} : ∀ k i last, (∀ j, i ≤ j → j < i + k → OkA (l j)) → (0 < k → last < (l i).h) → (∀ j, i ≤ j → j + 1 < i + k → (l j).h < (l (j + 1)).h) → chkL l k i last = 0 := by
  intro k
  induction k with
  | zero => intro i last _ _ _; rfl
  | succ k ih =>
    intro i last h1 h2 h3
    unfold chkL
    have g := (okA_iff _).2 (h1 i (by omega) (by omega))
    rw [if_neg (by simp [g]), if_neg (by have := h2 (by omega); omega)]
    exact ih _ _ (fun j a b => h1 j (by omega) (by omega)) (fun hk => h3 i (by omega) (by omega)) (fun j a b => h3 j (by omega) (by omega))
theorem chk_of {r f : Int} {n : Nat} {l : Nat → Ab} (S : Sht r f n l) : chkS r f n l = 0 := by
  obtain ⟨a, b, c, d⟩ := S.dr
  have h1 := S.n1
  have h2 := S.n40
  unfold chkS
  rw [if_neg (by simp [a, b, c, d]), if_neg (by omega), if_neg (by omega)]
  exact chkL_of _ _ _ (fun j _ hj => S.ok j (by omega)) (fun _ => by have := (S.ok 0 (by omega)).h0; omega) (fun j _ hj => S.asc j (j + 1) (by omega) (by omega))
/-- a list of absolutes that make a sheet -/
theorem sht_of {r f : Int} {A : List Ab} (d : Dr r f) (h1 : 1 ≤ A.length) (h2 : A.length ≤ 40) (ok : ∀ a ∈ A, OkA a) (asc : A.Pairwise fun x y => x.h < y.h) : Sht r f A.length (abAt A) := by
  have key : ∀ i (h : i < A.length), abAt A i = A[i] := fun i h => by simp [abAt, h]
  refine ⟨d, h1, h2, fun i hi => by rw [key i hi]; exact ok _ (List.getElem_mem _), fun i j hij hj => ?_⟩
  rw [key i (by omega), key j hj]
  exact List.pairwise_iff_getElem.1 asc i j (by omega) hj hij
noncomputable def madR (g : Nat → Nat × Nat × Nat) (n : Nat) : List Ab := if n = 0 then [⟨4, 5, 5⟩] else madL g (min n 5) 0 0
theorem madL_ok {g : Nat → Nat × Nat × Nat} : ∀ k i h : Nat, (madL g k i h).length ≤ k ∧ (∀ a ∈ madL g k i h, (h : Int) ≤ a.h ∧ a.h < 9 ∧ 0 ≤ a.lo ∧ a.lo ≤ a.hi ∧ a.hi < 19) ∧ (madL g k i h).Pairwise fun x y => x.h < y.h := by
  intro k
  induction k with
  | zero => intro i h; simp [madL]
  | succ k ih =>
    intro i h
    unfold madL
    split
    · obtain ⟨a1, a2, a3⟩ := ih (i + 1) (h + (1 + (g i).1 % 3))
      refine ⟨by simp; omega, ?_, ?_⟩
      · intro a ha
        rcases List.mem_cons.1 ha with rfl | ha
        · simp only [madA]; omega
        · have := a2 a ha; omega
      · refine List.pairwise_cons.2 ⟨fun a ha => ?_, a3⟩
        have := a2 a ha
        simp only [madA]
        omega
    · simp
theorem madR_len {g : Nat → Nat × Nat × Nat} {n : Nat} : 1 ≤ (madR g n).length ∧ (madR g n).length ≤ 5 := by
  unfold madR
  split
  · simp
  · obtain ⟨k, hk⟩ : ∃ k, min n 5 = k + 1 := ⟨min n 5 - 1, by omega⟩
    have := (madL_ok (g := g) (min n 5) 0 0).1
    refine ⟨?_, by omega⟩
    rw [hk]
    simp [madL]
theorem madR_ok {g : Nat → Nat × Nat × Nat} {n : Nat} : (∀ a ∈ madR g n, 0 ≤ a.h ∧ a.h < 9 ∧ 0 ≤ a.lo ∧ a.lo ≤ a.hi ∧ a.hi < 19) ∧ (madR g n).Pairwise fun x y => x.h < y.h := by
  unfold madR
  split
  · simp
  · have := (madL_ok (g := g) (min n 5) 0 0).2
    exact ⟨fun a ha => by have := this.1 a ha; omega, this.2⟩
theorem madR_sht {g : Nat → Nat × Nat × Nat} {n a b : Nat} : Sht ((a : Int) % 4) ((b : Int) % 4) (madR g n).length (abAt (madR g n)) :=
  sht_of ⟨by omega, by omega, by omega, by omega⟩ madR_len.1 (by have := (madR_len (g := g) (n := n)).2; omega) (fun x hx => by have := madR_ok.1 x hx; exact ⟨by omega, by omega, by omega, by omega, by omega⟩) madR_ok.2
def abK (A : List Ab) : Blk := .cells (A.flatMap abG) 3 true true
section
variable (a b off n c : Nat) {cs : List Value} {own : Bool} {g : Nat → Nat × Nat × Nat}
theorem c38 (ha : a < 256) (hb : b < 256) (hc : TrC cs off n g) : LL.run 38 [trV a b 0 off n c] [.cells cs 3 true own] = some ⟨shV ((a : Int) % 4) ((b : Int) % 4) 1 0 (madR g n).length (madR g n).length, [abK (madR g n)], []⟩ := by
  refine go (by decide) ?_
  rw [run38 _ _ _ (by simp)]
  have this := l38 a b off n c (own := own) hc (min n 5) 0 0 [] (by omega) (by omega) rfl
  simp only [List.nil_append, Int.natCast_zero, List.flatMap_nil] at this
  unfold madR
  by_cases h : n = 0
  · rw [if_pos h]
    subst h
    have e : madL g (min 0 5) 0 0 = [] := by simp [madL]
    rw [e] at this
    have c1 := fun hp b c rd => app_list (h := hp) (b := b) (c := c) (k := 3) (by' := 24) (l := 0) (cs := []) (new := [iv 4, iv 5, iv 5]) (rd := rd) rfl (by omega) (by omega) rfl
    simp only [List.flatMap_nil, List.length_nil, List.nil_append, Nat.zero_add] at this c1
    rw [show abK [⟨4, 5, 5⟩] = .cells [iv 4, iv 5, iv 5] 3 true true from rfl]
    simp (maxSteps := 1000000) (disch := first | omega | decide | assumption | simp [scal]) [za_24, o_fieldAddr fa_75_0 (by decide), loadA_eq ia_5, o_convI cv_5_3, o_fieldAddr fa_75_1 (by decide), o_build za_24 pl_24, sz_24, o_fieldAddr fa_75_2 (by decide), loadA_eq ia_73, lenA_sl lk_73, o_indexAddrS es_73, o_indexAddrA ea_88, o_fieldAddr fa_24_2 (by decide), loadA_eq ia_22, o_indexAddrS es_22, ze_22, o_buildSlice es_22 ze_22 (by decide) ba_22_1, ap_22, builtin_append ni_22, sz_22, lenA_sl lk_22, loadA_eq ia_24, want_some q38_13g5, want_some q38_13g9, this, tm4, k43, append_some ap_22, srcCells, c1]
  · rw [if_neg h]
    obtain ⟨k, hk⟩ : ∃ k, min n 5 = k + 1 := ⟨min n 5 - 1, by omega⟩
    have e : 0 < (madL g (min n 5) 0 0).length := by rw [hk]; simp [madL]
    have e2 := (madL_ok (g := g) (min n 5) 0 0).1
    generalize madL g (min n 5) 0 0 = A at *
    have e3 : ¬ (A.length = 0) := by omega
    simp only [abK]
    simp (maxSteps := 1000000) (disch := first | omega | decide | assumption | simp [scal]) [za_24, o_fieldAddr fa_75_0 (by decide), loadA_eq ia_5, o_convI cv_5_3, o_fieldAddr fa_75_1 (by decide), o_build za_24 pl_24, sz_24, o_fieldAddr fa_75_2 (by decide), loadA_eq ia_73, lenA_sl lk_73, o_indexAddrS es_73, o_indexAddrA ea_88, o_fieldAddr fa_24_2 (by decide), loadA_eq ia_22, o_indexAddrS es_22, ze_22, o_buildSlice es_22 ze_22 (by decide) ba_22_1, ap_22, builtin_append ni_22, sz_22, lenA_sl lk_22, loadA_eq ia_24, want_some q38_13g5, want_some q38_13g9, this, tm4, e, e3]
theorem k38 {bb : Nat} {h : List Blk} (ha : a < 256) (hb0 : b < 256) (hb : h[bb]? = some (.cells cs 3 true own)) (hc : TrC cs off n g) : callH LL 38 [trV a b bb off n c] h = some ⟨shV ((a : Int) % 4) ((b : Int) % 4) h.length 0 (madR g n).length (madR g n).length, h ++ [abK (madR g n)], [bb], []⟩ :=
  callN_1 rfl hb noIdB_flat (args' := [trV a b 0 off n c]) (by simp [renV, dep, optAll, idx, nbeq]) (c38 a b off n c (own := own) ha hb0 hc) (by intro b hb; simp at hb; subst hb; exact noIdB_flat) (by simp [renV, dep, nblt, optAll])
end
end Go.Proofs.Ytiafgimgcbmgaaa.bl
namespace Go.Proofs.Ytiafgimgcbmgaaa.bl
open Go.GE
set_option linter.unusedVariables false
set_option linter.unusedSimpArgs false
set_option maxRecDepth 100000
set_option maxHeartbeats 4000000
theorem part_eq {m : Nat} {st : Nat → Int} (ha : Asc m st) {x y : Int} (h : x ≤ y) : partS m st x = partS m st y ↔ ∀ j, j < m → st j < y → st j < x := by
  have hm := part_mono ha h
  constructor
  · intro e j hj h1
    have := (part_iff ha y hj).1 h1
    exact (part_iff ha x hj).2 (by omega)
  · intro e
    apply Classical.byContradiction
    intro hne
    have hl := part_le (m := m) (st := st) (x := y)
    have h1 : partS m st x < m := by omega
    have h2 := (part_iff ha y h1).2 (by omega)
    have h3 := (part_iff ha x h1).1 (e _ h1 h2)
    omega
/-- the values at an hour: the greatest least one, the least greatest one -/
theorem valL_spec {r f : Int} {l : Nat → Ab} {m : Nat} {st : Nat → Int} {x : Int} {pt : Nat} : ∀ k i p,
    ((valL r f l m st x pt k i p).2.2 = true ↔ p.2.2 = true ∨ ∃ j, i ≤ j ∧ j < i + k ∧ partS m st (l j).h = pt) ∧
    (p.2.2 = true → p.1 ≤ (valL r f l m st x pt k i p).1 ∧ (valL r f l m st x pt k i p).2.1 ≤ p.2.1) ∧
    (∀ j, i ≤ j → j < i + k → partS m st (l j).h = pt → arLo r f (l j) x ≤ (valL r f l m st x pt k i p).1 ∧ (valL r f l m st x pt k i p).2.1 ≤ arHi r f (l j) x) ∧
    ((p.2.2 = true ∧ (valL r f l m st x pt k i p).1 = p.1) ∨ (∃ j, i ≤ j ∧ j < i + k ∧ partS m st (l j).h = pt ∧ (valL r f l m st x pt k i p).1 = arLo r f (l j) x) ∨ (valL r f l m st x pt k i p).2.2 = false) ∧
    ((p.2.2 = true ∧ (valL r f l m st x pt k i p).2.1 = p.2.1) ∨ (∃ j, i ≤ j ∧ j < i + k ∧ partS m st (l j).h = pt ∧ (valL r f l m st x pt k i p).2.1 = arHi r f (l j) x) ∨ (valL r f l m st x pt k i p).2.2 = false) := by
  intro k
  induction k with
  | zero =>
    intro i p
    refine ⟨by simp [valL]; intro j h1 h2; omega, by simp [valL], fun j h1 h2 => by omega, ?_, ?_⟩ <;>
    · rcases Bool.eq_false_or_eq_true p.2.2 with h | h <;> simp [valL, h]
  | succ k ih =>
    intro i p
    unfold valL
    by_cases hp : partS m st (l i).h = pt
    · rw [if_pos hp]
      obtain ⟨a, b, q⟩ := p
      have key : ∀ u v : Int, (arLo r f (l i) x ≤ u) → (u = arLo r f (l i) x ∨ (q = true ∧ u = a)) → (v ≤ arHi r f (l i) x) → (v = arHi r f (l i) x ∨ (q = true ∧ v = b)) → (q = true → a ≤ u ∧ v ≤ b) →
          ((valL r f l m st x pt k (i + 1) (u, v, true)).2.2 = true ↔ q = true ∨ ∃ j, i ≤ j ∧ j < i + (k + 1) ∧ partS m st (l j).h = pt) ∧
          (q = true → a ≤ (valL r f l m st x pt k (i + 1) (u, v, true)).1 ∧ (valL r f l m st x pt k (i + 1) (u, v, true)).2.1 ≤ b) ∧ (∀ j, i ≤ j → j < i + (k + 1) → partS m st (l j).h = pt → arLo r f (l j) x ≤ (valL r f l m st x pt k (i + 1) (u, v, true)).1 ∧ (valL r f l m st x pt k (i + 1) (u, v, true)).2.1 ≤ arHi r f (l j) x) ∧
          ((q = true ∧ (valL r f l m st x pt k (i + 1) (u, v, true)).1 = a) ∨ (∃ j, i ≤ j ∧ j < i + (k + 1) ∧ partS m st (l j).h = pt ∧ (valL r f l m st x pt k (i + 1) (u, v, true)).1 = arLo r f (l j) x) ∨ (valL r f l m st x pt k (i + 1) (u, v, true)).2.2 = false) ∧
          ((q = true ∧ (valL r f l m st x pt k (i + 1) (u, v, true)).2.1 = b) ∨ (∃ j, i ≤ j ∧ j < i + (k + 1) ∧ partS m st (l j).h = pt ∧ (valL r f l m st x pt k (i + 1) (u, v, true)).2.1 = arHi r f (l j) x) ∨ (valL r f l m st x pt k (i + 1) (u, v, true)).2.2 = false) := by
        intro u v g1 g2 g3 g4 g5
        obtain ⟨i1, i2, i3, i4, i5⟩ := ih (i + 1) (u, v, true)
        generalize valL r f l m st x pt k (i + 1) (u, v, true) = z at *
        have i2' := i2 rfl
        have i1' : z.2.2 = true := i1.2 (Or.inl rfl)
        refine ⟨⟨fun _ => Or.inr ⟨i, Nat.le_refl _, by omega, hp⟩, fun _ => i1'⟩, fun hq => ?_, fun j h1 h2 h3 => ?_, ?_, ?_⟩
        · have := g5 hq; exact ⟨Int.le_trans this.1 i2'.1, Int.le_trans i2'.2 this.2⟩
        · rcases Nat.eq_or_lt_of_le h1 with rfl | h1
          · exact ⟨Int.le_trans g1 i2'.1, Int.le_trans i2'.2 g3⟩
          · exact i3 j (by omega) (by omega) h3
        · rcases i4 with ⟨_, h⟩ | ⟨j, h1, h2, h3, h4⟩ | h
          · rcases g2 with g | ⟨g, g'⟩
            · exact Or.inr (Or.inl ⟨i, Nat.le_refl _, by omega, hp, h.trans g⟩)
            · exact Or.inl ⟨g, h.trans g'⟩
          · exact Or.inr (Or.inl ⟨j, by omega, by omega, h3, h4⟩)
          · exact Or.inr (Or.inr h)
        · rcases i5 with ⟨_, h⟩ | ⟨j, h1, h2, h3, h4⟩ | h
          · rcases g4 with g | ⟨g, g'⟩
            · exact Or.inr (Or.inl ⟨i, Nat.le_refl _, by omega, hp, h.trans g⟩)
            · exact Or.inl ⟨g, h.trans g'⟩
          · exact Or.inr (Or.inl ⟨j, by omega, by omega, h3, h4⟩)
          · exact Or.inr (Or.inr h)
      cases q
      · rw [vStep_new]; exact key _ _ (Int.le_refl _) (Or.inl rfl) (Int.le_refl _) (Or.inl rfl) (by simp)
      · rw [vStep_old]
        refine key _ _ ?_ ?_ ?_ ?_ ?_
        · split <;> omega
        · split
          · exact Or.inl rfl
          · exact Or.inr ⟨rfl, rfl⟩
        · split <;> omega
        · split
          · exact Or.inl rfl
          · exact Or.inr ⟨rfl, rfl⟩
        · intro _
          constructor
          · split <;> omega
          · split <;> omega
    · rw [if_neg hp]
      obtain ⟨i1, i2, i3, i4, i5⟩ := ih (i + 1) p
      have hx : ∀ j, i ≤ j → partS m st (l j).h = pt → i + 1 ≤ j := fun j h1 h2 => by
        rcases Nat.eq_or_lt_of_le h1 with rfl | h1
        · exact absurd h2 hp
        · exact h1
      refine ⟨i1.trans ⟨?_, ?_⟩, i2, fun j h1 h2 h3 => i3 j (hx j h1 h3) (by omega) h3, ?_, ?_⟩
      · rintro (h | ⟨j, h1, h2, h3⟩)
        · exact Or.inl h
        · exact Or.inr ⟨j, by omega, by omega, h3⟩
      · rintro (h | ⟨j, h1, h2, h3⟩)
        · exact Or.inl h
        · exact Or.inr ⟨j, hx j h1 h3, by omega, h3⟩
      · rcases i4 with h | ⟨j, h1, h2, h3, h4⟩ | h
        · exact Or.inl h
        · exact Or.inr (Or.inl ⟨j, by omega, by omega, h3, h4⟩)
        · exact Or.inr (Or.inr h)
      · rcases i5 with h | ⟨j, h1, h2, h3, h4⟩ | h
        · exact Or.inl h
        · exact Or.inr (Or.inl ⟨j, by omega, by omega, h3, h4⟩)
        · exact Or.inr (Or.inr h)
end Go.Proofs.Ytiafgimgcbmgaaa.bl
namespace Go.Proofs.Ytiafgimgcbmgaaa.bl
open Go.GE
set_option linter.unusedVariables false
set_option linter.unusedSimpArgs false
set_option maxRecDepth 100000
set_option maxHeartbeats 4000000
theorem stpL_of {st : Nat → Int} : ∀ k i last, (∀ j, i ≤ j → j < i + k → 0 ≤ st j ∧ st j ≤ 10000) → (0 < k → last < st i) → (∀ j, i ≤ j → j + 1 < i + k → st j < st (j + 1)) → stpL st k i last = 0 := by
  intro k
  induction k with
  | zero => intro i last _ _ _; rfl
  | succ k ih =>
    intro i last h1 h2 h3
    unfold stpL
    have g := h1 i (by omega) (by omega)
    rw [if_neg (by simp [g.1, g.2]), if_neg (by have := h2 (by omega); omega)]
    exact ih _ _ (fun j a b => h1 j (by omega) (by omega)) (fun hk => h3 i (by omega) (by omega)) (fun j a b => h3 j (by omega) (by omega))
theorem ptd_of {r f : Int} {n : Nat} {l : Nat → Ab} {m : Nat} {st : Nat → Int} (S : Sht r f n l) (ha : Asc m st) (hm : m ≤ 40) (hb : ∀ j, j < m → 0 ≤ st j ∧ st j ≤ 10000) : ptdE r f n l m st = 0 := by
  unfold ptdE
  rw [if_neg (by simp [chk_of S])]
  unfold stpS
  rw [if_neg (by omega)]
  exact stpL_of _ _ _ (fun j _ h => hb j (by omega)) (fun h => by have := hb 0 h; omega) (fun j _ h => ha j (j + 1) (by omega) (by omega))
theorem exp_of {r f : Int} {n : Nat} {l : Nat → Ab} {m : Nat} {st : Nat → Int} (h : ptdE r f n l m st = 0) : expE r f n l m st = if clashS r f n l m st (-1) then 13 else 0 := by
  unfold expE; rw [if_neg (by simp [h])]
theorem asc_pw {x : List Int} (h : x.Pairwise fun a b => a < b) : Asc x.length (inAt x) := by
  intro i j hij hj
  have e : ∀ i (h : i < x.length), inAt x i = x[i] := fun i h => by simp [inAt, h]
  rw [e i (by omega), e j hj]
  exact List.pairwise_iff_getElem.1 h i j (by omega) hj hij
theorem set_mem {w i : Nat} {v : Int} : v ∈ setL w i ↔ ∃ h : Nat, h < i ∧ w / 2 ^ h % 2 = 1 ∧ v = h := by
  unfold setL
  simp only [List.mem_map, List.mem_filter, List.mem_range, decide_eq_true_eq]
  constructor
  · rintro ⟨h, ⟨h1, h2⟩, h3⟩; exact ⟨h, h1, h2, h3.symm⟩
  · rintro ⟨h, h1, h2, h3⟩; exact ⟨h, ⟨h1, h2⟩, h3.symm⟩
theorem set_asc {w : Nat} : Asc (setL w 9).length (inAt (setL w 9)) := by
  apply asc_pw
  unfold setL
  rw [List.pairwise_map]
  refine List.Pairwise.filter _ ?_
  exact List.pairwise_lt_range.imp fun h => by omega
theorem in_mem {x : List Int} {j : Nat} (h : j < x.length) : inAt x j ∈ x := by
  have e : inAt x j = x[j] := by simp [inAt, h]
  rw [e]; exact List.getElem_mem _
theorem mem_in {x : List Int} {v : Int} (h : v ∈ x) : ∃ j, j < x.length ∧ inAt x j = v := by
  obtain ⟨j, hj, e⟩ := List.mem_iff_getElem.1 h
  exact ⟨j, hj, by simp [inAt, hj, e]⟩
theorem set_bd {w j : Nat} (h : j < (setL w 9).length) : 0 ≤ inAt (setL w 9) j ∧ inAt (setL w 9) j ≤ 10000 := by
  obtain ⟨q, h1, _, h3⟩ := set_mem.1 (in_mem h)
  omega
theorem set_ptd {r f : Int} {n : Nat} {l : Nat → Ab} (S : Sht r f n l) (w : Nat) : ptdE r f n l (setL w 9).length (inAt (setL w 9)) = 0 :=
  ptd_of S set_asc (by have := setL_len (w := w) (i := 9); omega) fun j hj => set_bd hj
end Go.Proofs.Ytiafgimgcbmgaaa.bl
namespace Go.GE
theorem rdN_mid (cs : List Value) : ∀ (k o : Nat), o + k ≤ cs.length → rdN cs o k = some ((cs.drop o).take k) := by
  intro k
  induction k with
  | zero => intro o h; simp [rdN]
  | succ k ih =>
    intro o h
    have h1 := ih (o + 1) (by omega)
    have h2 : o < cs.length := by omega
    unfold rdN
    rw [h1]
    simp only [List.getElem?_eq_getElem h2]
    rw [← List.getElem_cons_drop h2]
    rfl
end Go.GE
namespace Go.Proofs.Ytiafgimgcbmgaaa.bl
open Go.GE
set_option linter.unusedVariables false
set_option linter.unusedSimpArgs false
end Go.Proofs.Ytiafgimgcbmgaaa.bl
namespace Go.Proofs.Ytiafgimgcbmgaaa.bl
open Go.GE
set_option linter.unusedVariables false
set_option linter.unusedSimpArgs false
set_option maxRecDepth 100000
set_option maxHeartbeats 4000000
abbrev tv (n : Nat) : Value := .int .u16 (n : Int)
end Go.Proofs.Ytiafgimgcbmgaaa.bl
namespace Go.Proofs.Ytiafgimgcbmgaaa.bl
open Go.GE
set_option linter.unusedVariables false
set_option linter.unusedSimpArgs false
set_option maxRecDepth 100000
set_option maxHeartbeats 4000000
theorem abAt_get {A : List Ab} {i : Nat} (h : i < A.length) : abAt A i = A[i] := by simp [abAt, h]
theorem need_iff {r f : Int} {a b : Ab} (h : a.h ≤ b.h) : needS r f a b = true ↔ b.hi < a.lo - (b.h - a.h) * f ∨ a.hi + (b.h - a.h) * r < b.lo := by
  unfold needS arLo arHi
  rw [if_pos (by omega), if_pos (by omega)]
  simp
end Go.Proofs.Ytiafgimgcbmgaaa.bl
namespace Go.Proofs.Ytiafgimgcbmgaaa.bl
open Go.GE Go.ChangeShapes Go.WideShapes Go.RowKit
set_option linter.unusedVariables false
set_option linter.unusedSimpArgs false
set_option maxRecDepth 100000
set_option maxHeartbeats 4000000
section
variable {H : Type} {enc : TypeId × Value → H} {W : World} {base b0 : Nat} {v : Value} {d : DataW H} {p : List MemPlace}
def trG (zs : List (List Int)) (i : Nat) : Nat × Nat × Nat := (((zs.getD i []).getD 0 0).toNat, ((zs.getD i []).getD 1 0).toNat, ((zs.getD i []).getD 2 0).toNat)
theorem tr_flat {zs : List (List Int)} (h : ∀ z ∈ zs, wfs [.u8, .u8, .u8] z) : TrC (zs.flatMap (ints [.u8, .u8, .u8])) 0 zs.length (trG zs) := by
  have h' : ∀ z ∈ zs, wfs (List.replicate 3 .u8) z := h
  intro i hi
  have hz := List.getElem?_eq_getElem hi
  have hm := h' _ (List.getElem_mem hi)
  have hl : zs[i].length = 3 := hm.1
  have hb : ∀ x ∈ zs[i], 0 ≤ x ∧ x ≤ 255 := fun x hx => u8_wf (wfs_get hm hx)
  -- all entries have three numbers
  obtain ⟨L, hL, hLl⟩ : ∃ L : List (Int × Int × Int), zs = L.map (fun q => [q.1, q.2.1, q.2.2]) ∧ L.length = zs.length := by
    refine ⟨zs.map fun z => (z.getD 0 0, z.getD 1 0, z.getD 2 0), ?_, by simp⟩
    rw [List.map_map]
    conv => lhs; rw [← List.map_id zs]
    refine List.map_congr_left fun z hz => ?_
    have := (h z hz).1
    match z, this with
    | [x, y, w], _ => rfl
  have e : zs.flatMap (ints [.u8, .u8, .u8]) = L.flatMap fun q => [.int .u8 q.1, .int .u8 q.2.1, .int .u8 q.2.2] := by
    rw [hL, List.flatMap_map]
    rfl
  have hLi : L[i]? = some (L[i]'(by omega)) := List.getElem?_eq_getElem (by omega)
  have g := fun j (hj : j < 3) => flat_get (g := fun q : Int × Int × Int => [Value.int .u8 q.1, .int .u8 q.2.1, .int .u8 q.2.2]) (k := 3) (fun _ => rfl) (l := L) (i := i) (j := j) hLi hj
  have ez : zs[i] = [(L[i]'(by omega)).1, (L[i]'(by omega)).2.1, (L[i]'(by omega)).2.2] := by simp [hL]
  have et : trG zs i = ((L[i]'(by omega)).1.toNat, (L[i]'(by omega)).2.1.toNat, (L[i]'(by omega)).2.2.toNat) := by
    have eq : zs.getD i [] = zs[i] := by rw [List.getD_eq_getElem?_getD, hz, Option.getD_some]
    unfold trG
    rw [eq, ez]
    rfl
  rw [ez] at hb
  have b0 := hb _ (List.mem_cons_self)
  have b1 := hb _ (List.mem_cons_of_mem _ List.mem_cons_self)
  have b2 := hb _ (List.mem_cons_of_mem _ (List.mem_cons_of_mem _ List.mem_cons_self))
  rw [e, et]
  have g0 := g 0 (by omega)
  have g1 := g 1 (by omega)
  have g2 := g 2 (by omega)
  simp only [Nat.zero_add]
  refine ⟨⟨?_, ?_, ?_⟩, by omega, by omega, by omega⟩
  · rw [Nat.add_zero] at g0
    rw [g0]
    simp only [List.getElem?_cons_zero, uv, Option.some.injEq, Value.int.injEq, true_and]
    omega
  · rw [g1]
    simp only [List.getElem?_cons_zero, List.getElem?_cons_succ, uv, Option.some.injEq, Value.int.injEq, true_and]
    omega
  · rw [g2]
    simp only [List.getElem?_cons_zero, List.getElem?_cons_succ, uv, Option.some.injEq, Value.int.injEq, true_and]
    omega
/-- a trace as it is handed over -/
theorem open_trace (hv : Value.okWide Try.prog W .any b0 75 v) (hd : DataW.Trod enc Try.prog W base (fun _ => true) true 75 v d p) :
    ∃ (a b : Nat) (n : Nat) (cs : List Value) (g : Nat → Nat × Nat × Nat) (mb : Option MB), a < 256 ∧ b < 256 ∧ TrC cs 0 n g ∧ WinO W mb (.cells cs 3 true false) ∧ ∀ (m : Mp) k, m k = mb → VR m (trV a b k 0 n n) v := by
  obtain ⟨c0, c1, c2, y0, y1, y2, n, rfl, _, _, t0, t1, t2⟩ := Joins.open_agg3 Try.underlying75 (by kernel_rfl) (by kernel_rfl) hv hd
  obtain ⟨r, e0, _, w0⟩ := DataW.trod_int Try.underlying5 t0
  obtain ⟨f, e1, _, w1⟩ := DataW.trod_int Try.underlying5 t1
  cases e0; cases e1
  obtain ⟨a, rfl, ha⟩ := nat_of (b := 255) (u8_wf w0)
  obtain ⟨b, rfl, hb⟩ := nat_of (b := 255) (u8_wf w1)
  have hc : Cell.okWide Try.prog W .any b0 73 c2 := okWide_cell (ts := [5, 5, 73]) Try.underlying75 (by kernel_rfl) hv 2 (by decide) c2 rfl
  obtain ⟨zs, mb, hw, hvr, hz, _⟩ := open_slice_flat (ks := [.u8, .u8, .u8]) (d := 5) Try.underlying73 (by kernel_rfl) (by kernel_rfl) (by decide) hc t2
  exact ⟨a, b, zs.length, _, trG zs, mb, ha, hb, tr_flat hz, hw, fun m b hm => .agg (.cons (.int _ _) (.cons (.int _ _) (.cons (hvr m b hm) .nil)))⟩
theorem open_u8 (hv : Value.okWide Try.prog W .any b0 5 v) (hd : DataW.Trod enc Try.prog W base (fun _ => true) true 5 v d p) : ∃ n : Nat, v = uv n ∧ n < 256 := by
  obtain ⟨y, rfl, _, _, h⟩ := open_int Try.underlying5 hv hd
  obtain ⟨n, rfl, hn⟩ := nat_of (b := 255) (u8_wf h)
  exact ⟨n, rfl, hn⟩
theorem open_u16 (hv : Value.okWide Try.prog W .any b0 50 v) (hd : DataW.Trod enc Try.prog W base (fun _ => true) true 50 v d p) : ∃ n : Nat, v = tv n ∧ n < 65536 := by
  obtain ⟨y, rfl, _, _, h⟩ := open_int (show Try.prog.underlying 50 = some (.int .u16) from by kernel_rfl) hv hd
  obtain ⟨n, rfl, hn⟩ := nat_of (b := 65535) (u16_wf h)
  exact ⟨n, rfl, hn⟩
end
end Go.Proofs.Ytiafgimgcbmgaaa.bl
namespace Go.Proofs.Ytiafgimgcbmgaaa.bl
open Go.GE
set_option linter.unusedVariables false
set_option linter.unusedSimpArgs false
set_option maxRecDepth 100000
set_option maxHeartbeats 4000000
@[irreducible] def bT (F : Nat → Nat → Bool) : List Value := (List.range 600).map fun k => .bool (F (k / 60) (k % 60))
@[irreducible] def bR (F : Nat → Bool) : List Value := (List.range 60).map fun k => .bool (F k)
def upd (F : Nat → Nat → Bool) (h v : Nat) (x : Bool) : Nat → Nat → Bool := fun a b => if a = h ∧ b = v then x else F a b
theorem bT_len {F : Nat → Nat → Bool} : (bT F).length = 600 := by simp [bT]
theorem bR_len {F : Nat → Bool} : (bR F).length = 60 := by simp [bR]
theorem bT_all {F : Nat → Nat → Bool} : (bT F).all scal = true := by simp [bT, scal]
theorem bR_all {F : Nat → Bool} : (bR F).all scal = true := by simp [bR, scal]
theorem bT_cell {F : Nat → Nat → Bool} : (bT F).all cellV = true := by simp [bT, cellV]
theorem bT_get {F : Nat → Nat → Bool} {h v : Nat} (hh : h < 10) (hv : v < 60) : (bT F)[h * 60 + v]? = some (.bool (F h v)) := by
  have e : h * 60 + v < 600 := by omega
  have e1 : (h * 60 + v) / 60 = h := by omega
  have e2 : (h * 60 + v) % 60 = v := by omega
  simp [bT, e, e1, e2]
theorem bR_get {F : Nat → Bool} {v : Nat} (hv : v < 60) : (bR F)[v]? = some (.bool (F v)) := by simp [bR, hv]
theorem bT_set {F : Nat → Nat → Bool} {h v : Nat} {x : Bool} (hh : h < 10) (hv : v < 60) : (bT F).set (h * 60 + v) (.bool x) = bT (upd F h v x) := by
  apply List.ext_getElem?
  intro k
  rw [List.getElem?_set]
  by_cases e : h * 60 + v = k
  · subst e
    have e : h * 60 + v < 600 := by omega
    rw [if_pos rfl, bT_len, if_pos e, bT_get hh hv]
    simp [upd]
  · rw [if_neg e]
    by_cases hk : k < 600
    · simp only [bT, List.getElem?_map, List.getElem?_range hk, Option.map_some, upd]
      rw [if_neg (by omega)]
    · rw [List.getElem?_eq_none (by rw [bT_len]; omega), List.getElem?_eq_none (by rw [bT_len]; omega)]
theorem bT_congr {F G : Nat → Nat → Bool} (h : ∀ a b, a < 10 → b < 60 → F a b = G a b) : bT F = bT G := by
  unfold bT
  refine List.map_congr_left fun k hk => ?_
  have := List.mem_range.1 hk
  rw [h (k / 60) (k % 60) (by omega) (by omega)]
theorem za80 : zeroA Try.prog 80 = some (.agg (bT fun _ _ => false).toArray) := by kernel_rfl
theorem rdN_all {cs : List Value} {n : Nat} (h : cs.length = n) : rdN cs 0 n = some cs := by
  rw [rdN_mid cs n 0 (by omega), List.drop_zero, List.take_of_length_le (by omega)]
theorem wrN_go : ∀ (vs pre post : List Value), vs.all cellV = true → ∀ old : List Value, old.length = vs.length → wrN (pre ++ old ++ post) pre.length vs = some (pre ++ vs ++ post) := by
  intro vs
  induction vs with
  | nil => intro pre post _ old ho; obtain rfl : old = [] := by simpa using ho
           rfl
  | cons v vs ih =>
    intro pre post hv old ho
    obtain ⟨o, old, rfl⟩ : ∃ o os, old = o :: os := by cases old with | nil => simp at ho | cons o os => exact ⟨o, os, rfl⟩
    simp only [List.all_cons, Bool.and_eq_true] at hv
    have e : Nat.blt pre.length (pre ++ (o :: old) ++ post).length = true := by rw [nblt, decide_eq_true_eq]; simp
    unfold wrN
    rw [e, hv.1, Bool.and_self, cond_true]
    have e2 : (pre ++ (o :: old) ++ post).set pre.length v = (pre ++ [v]) ++ old ++ post := by
      rw [List.append_assoc, List.set_append_right _ _ (Nat.le_refl _), Nat.sub_self]
      simp
    rw [e2]
    have := ih (pre ++ [v]) post hv.2 old (by simpa using ho)
    simp only [List.length_append, List.length_cons, List.length_nil] at this
    rw [this]
    simp
theorem wrN_all {cs vs : List Value} (h : cs.length = vs.length) (hv : vs.all cellV = true) : wrN cs 0 vs = some vs := by
  have := wrN_go vs [] [] hv cs h
  simpa using this
/-- a whole table is read, is written -/
def rd600 (cs : List Value) : Option Value := (rdN cs 0 600).map fun l => .agg l.toArray
def rd60 (cs : List Value) : Option Value := (rdN cs 0 60).map fun l => .agg l.toArray
theorem ld80 {h : List Blk} {b : Nat} : loadA Try.prog h 80 b 0 = (match cellsAt h b with | some cs => rd600 cs | none => none) := by
  rw [loadA_eq (show aggK Try.prog 80 = some (true, 600) by kernel_rfl)]
  rfl
theorem ld79 {h : List Blk} {b : Nat} : loadA Try.prog h 79 b 0 = (match cellsAt h b with | some cs => rd60 cs | none => none) := by
  rw [loadA_eq (show aggK Try.prog 79 = some (true, 60) by kernel_rfl)]
  rfl
theorem rd600_T {F : Nat → Nat → Bool} : rd600 (bT F) = some (.agg (bT F).toArray) := by unfold rd600; rw [rdN_all bT_len]; rfl
theorem rd60_R {F : Nat → Bool} : rd60 (bR F) = some (.agg (bR F).toArray) := by unfold rd60; rw [rdN_all bR_len]; rfl
theorem wr_T {F G : Nat → Nat → Bool} : wrN (bT F) 0 (bT G) = some (bT G) := wrN_all (by rw [bT_len, bT_len]) bT_cell
theorem bT_row {F : Nat → Nat → Bool} {h : Nat} (hh : h < 10) : (bT F).toArray.extract (h * 60) (h * 60 + 60) = (bR (F h)).toArray := by
  apply Array.ext'
  simp only [Array.toList_extract, List.extract_eq_take_drop]
  apply List.ext_getElem?
  intro k
  rw [List.getElem?_take]
  by_cases hk : k < 60
  · rw [if_pos (by omega), List.getElem?_drop, bT_get hh hk, bR_get hk]
  · rw [if_neg (by omega), List.getElem?_eq_none (by rw [bR_len]; omega)]
theorem bT_plain {F : Nat → Nat → Bool} : plain (.agg (bT F).toArray) = true := by simp [plain, bT_all]
end Go.Proofs.Ytiafgimgcbmgaaa.bl
namespace Go.Proofs.Ytiafgimgcbmgaaa.bl
open Go.GE
set_option linter.unusedVariables false
set_option linter.unusedSimpArgs false
set_option maxRecDepth 100000
set_option maxHeartbeats 4000000
attribute [local simp] runOps_nil runOps_cons runOpsF_nil runOpsF_cons fstS_some fstF_some opStep_eq want_none oStep_true oStep_false fin_pure fin_read fin_alloc fin_write storeB wrN cellV addWr o_move o_assign o_pick o_alloc o_box o_load o_store o_nilCheck o_bin o_un o_extract o_callV o_callB o_callI callV_f callV_y callV_fc o_makeFunc partsA Instr.fill builtin_len builtin_max2 bin_add bin_sub bin_mul bin_quo bin_rem bin_lss bin_leq bin_gtr bin_geq bin_eql bin_neq un_neg un_not bin_shr bin_shl wrap_u64_id opd opds optAll putO nbeq nblt constOk isC ops sub cl cr co bodyOf thenS_normal thenS_ret thenS_exit thenS_goto afterN_normal afterN_ret afterN_exit afterN_goto condS_true condS_false blockS_normal blockS_ret blockS_exit blockS_goto headS normS normK_eq fixS_nil fixS_cons fix1 fixV emptyB keepO_nil keepO_cons roundC_normal roundC_exit roundC_ret roundC_goto sweep_eq sweepD rnm pickR pickW rootsB ptrT renT ptrFn renFn ptrB_flat ptrB_non renB_flat renB_non plainS_some drawS_some fpsOk disj unord range' dropTo enumT undef wrap_i64_id Value.cells mkCells ptrTo scal cellsAt rdN endS_ret resultsA Option.bind_some tupV finish reachN dep ptrL_eq ptrL renL_eq renL ptrV_bool ptrV_int ptrV_string ptrV_nilFunc ptrV_nilIface ptrV_nilPtr ptrV_ptr ptrV_nilSl ptrV_sl ptrV_iface ptrV_agg ptrV_tuple ptrV_func renV_bool renV_int renV_string renV_nilFunc renV_nilIface renV_nilPtr renV_ptr renV_nilSl renV_sl renV_iface renV_agg renV_tuple renV_func gotoS_goto gotoS_normal gotoS_exit gotoS_ret skip_seq sliceE bnd bndHi intOf optOpd keepT_nil keepT_cons keepC_t keepC_f lk_nil lk_cons lkC_t lkC_f has_nil has_cons hasC_t hasC_f rep_nil rep_cons repC_t repC_f put_eq putC_t putC_f mem_nil mem_cons memC_t memC_f idx_nil idx_cons idxC_t idxC_f reach_nil reach_cons reachC_t reachC_f
attribute [local simp] n74_1s n74_5s n74_8s n74_9s n74_7s n74_13s n74_15s n74_18s n74_22s n74_25s n74_26s n74_24s n74_30s n74_31s n74_29s n74_28s n74_32s n74_27s n74_23s n74_21s n74_20s n74_20g n74_19s n74_17s n74_33s n74_16s n74_14s n74_12s n74_11s n74_34s n74_10s n74_6s n74_4s n74_3s n74_3g n74_2s n74_0s Try.f74
/-- may a value follow another one? -/
def stepB (dn up : Int) (st : Bool) (u v : Nat) : Bool := st || (decide ((u : Int) - dn ≤ v) && decide ((v : Int) ≤ u + up))
def flw (G : Nat → Bool) (dn up : Int) (st : Bool) (v : Nat) : Bool := anyF (fun u => G u && stepB dn up st u v) 60 0
section
variable (F : Nat → Nat → Bool) (dn up : Int) (st : Bool) (i j : Nat)
theorem l74_i (hd : 0 ≤ dn ∧ dn ≤ 1000) (hu : 0 ≤ up ∧ up ≤ 1000) (hi : i < 10) (hj : j < 10) (v : Nat) (hv : v < 60) (W : List Nat) (hW : W = [] ∨ W = [0]) : ∀ q u : Nat, u + q = 60 → ∀ x : Bool,
    lpB Try.prog LL ⟨74, 58, 1, none⟩ n74_20 n74_21 ⟨[(10, iv v), (11, .bool x), (16, iv u), (0, .pointer (some ⟨0, i * 60, none⟩)), (1, .pointer (some ⟨0, j * 60, none⟩)), (2, iv dn), (3, iv up), (4, .bool st), (13, iv v)], [.cells (bT F) 1 true true], W⟩ =
      some (.exit 2, ⟨[(10, iv v), (11, .bool (x || anyF (fun u => F i u && stepB dn up st u v) q u)), (0, .pointer (some ⟨0, i * 60, none⟩)), (1, .pointer (some ⟨0, j * 60, none⟩)), (2, iv dn), (3, iv up), (4, .bool st), (13, iv v)], [.cells (bT F) 1 true true], W⟩) := by
  intro q
  induction q with
  | zero =>
    intro u hu' x
    obtain rfl : u = 60 := by omega
    rw [lpB_eq]
    rcases hW with rfl | rfl <;>
    simp (maxSteps := 1000000) (disch := first | omega | decide | assumption | simp [scal]) [o_indexAddrA ea_79, loadA_eq ia_4, sz_4, want_some q74_31g1, want_some q74_31g7, want_some q74_31g9, want_some q74_31g15, want_some q74_33g7, anyF]
  | succ q ih =>
    intro u hu' x
    have e1 : (u : Int) < 60 := by omega
    have e2 : u < 60 := by omega
    have g := bT_get (F := F) hi e2
    have this := ih (u + 1) (by omega)
    simp only [cast1] at this
    rw [lpB_eq]
    simp only [anyF]
    have hs : stepB dn up st u v = (st || (decide ((u : Int) - dn ≤ v) && decide ((v : Int) ≤ u + up))) := rfl
    generalize stepB dn up st u v = s at *
    generalize anyF (fun u => F i u && stepB dn up st u v) q (u + 1) = y at *
    generalize F i u = z at *
    cases x
    · cases z
      · rcases hW with rfl | rfl <;>
        simp (maxSteps := 1000000) (disch := first | omega | decide | assumption | simp [scal]) [o_indexAddrA ea_79, loadA_eq ia_4, sz_4, want_some q74_31g1, want_some q74_31g7, want_some q74_31g9, want_some q74_31g15, want_some q74_33g7, e1, e2, g, this]
      · cases st
        · by_cases w1 : (u : Int) - dn ≤ v
          · by_cases w2 : (v : Int) ≤ u + up
            · simp only [w1, w2, decide_true, Bool.and_self, Bool.or_true] at hs
              subst hs
              rcases hW with rfl | rfl <;>
              simp (maxSteps := 1000000) (disch := first | omega | decide | assumption | simp [scal]) [o_indexAddrA ea_79, loadA_eq ia_4, sz_4, want_some q74_31g1, want_some q74_31g7, want_some q74_31g9, want_some q74_31g15, want_some q74_33g7, e1, e2, g, this, w1, w2]
            · simp only [w1, w2, decide_true, decide_false, Bool.and_false, Bool.or_false] at hs
              subst hs
              rcases hW with rfl | rfl <;>
              simp (maxSteps := 1000000) (disch := first | omega | decide | assumption | simp [scal]) [o_indexAddrA ea_79, loadA_eq ia_4, sz_4, want_some q74_31g1, want_some q74_31g7, want_some q74_31g9, want_some q74_31g15, want_some q74_33g7, e1, e2, g, this, w1, w2]
          · simp only [w1, decide_false, Bool.false_and, Bool.or_false] at hs
            subst hs
            rcases hW with rfl | rfl <;>
            simp (maxSteps := 1000000) (disch := first | omega | decide | assumption | simp [scal]) [o_indexAddrA ea_79, loadA_eq ia_4, sz_4, want_some q74_31g1, want_some q74_31g7, want_some q74_31g9, want_some q74_31g15, want_some q74_33g7, e1, e2, g, this, w1]
        · simp only [Bool.true_or] at hs
          subst hs
          rcases hW with rfl | rfl <;>
          simp (maxSteps := 1000000) (disch := first | omega | decide | assumption | simp [scal]) [o_indexAddrA ea_79, loadA_eq ia_4, sz_4, want_some q74_31g1, want_some q74_31g7, want_some q74_31g9, want_some q74_31g15, want_some q74_33g7, e1, e2, g, this]
    · rcases hW with rfl | rfl <;>
      simp (maxSteps := 1000000) (disch := first | omega | decide | assumption | simp [scal]) [o_indexAddrA ea_79, loadA_eq ia_4, sz_4, want_some q74_31g1, want_some q74_31g7, want_some q74_31g9, want_some q74_31g15, want_some q74_33g7, e1, e2, g, this]
/-- the rounds up to v are done -/
def flG (F : Nat → Nat → Bool) (dn up : Int) (st : Bool) (i j k : Nat) : Nat → Nat → Bool := fun a b => if a = j ∧ b < k then F j b && flw (F i) dn up st b else F a b
theorem l74_o (hd : 0 ≤ dn ∧ dn ≤ 1000) (hu : 0 ≤ up ∧ up ≤ 1000) (hi : i < 10) (hj : j < 10) (hij : i ≠ j) : ∀ q v : Nat, v + q = 60 → ∀ (W : List Nat) (hW : W = [] ∨ W = [0]), (v = 60 → W = [0]) →
    lpB Try.prog LL ⟨74, 58, 1, none⟩ n74_3 n74_4 ⟨[(0, .pointer (some ⟨0, i * 60, none⟩)), (1, .pointer (some ⟨0, j * 60, none⟩)), (2, iv dn), (3, iv up), (4, .bool st), (13, iv v)], [.cells (bT (flG F dn up st i j v)) 1 true true], W⟩ =
      some (.exit 0, ⟨[], [.cells (bT (flG F dn up st i j 60)) 1 true true], [0]⟩) := by
  intro q
  induction q with
  | zero =>
    intro v hv' W hW hW0
    obtain rfl : v = 60 := by omega
    obtain rfl := hW0 rfl
    rw [lpB_eq]
    simp (maxSteps := 1000000) (disch := first | omega | decide | assumption | simp [scal]) [o_indexAddrA ea_79, loadA_eq ia_4, sz_4, want_some q74_31g1, want_some q74_31g7, want_some q74_31g9, want_some q74_31g15, want_some q74_33g7]
  | succ q ih =>
    intro v hv' W hW hW0
    have e1 : (v : Int) < 60 := by omega
    have e2 : v < 60 := by omega
    have this := ih (v + 1) (by omega) [0] (.inr rfl) fun _ => rfl
    have L := l74_i (flG F dn up st i j v) dn up st i j hd hu hi hj v e2 W hW 60 0 (by omega) false
    have g := bT_get (F := flG F dn up st i j v) hj e2
    have s := fun x => bT_set (F := flG F dn up st i j v) (x := x) hj e2
    have e3 : j * 60 + v < 600 := by omega
    have gv : flG F dn up st i j v j v = F j v := by simp [flG]
    have hn : upd (flG F dn up st i j v) j v (F j v && flw (F i) dn up st v) = flG F dn up st i j (v + 1) := by
      funext a b
      simp only [upd, flG]
      by_cases h1 : a = j
      · subst h1
        by_cases h2 : b = v
        · subst h2; simp
        · by_cases h3 : b < v
          · simp [h2, h3, show b < v + 1 by omega]
          · simp [h2, h3, show ¬ b < v + 1 by omega]
      · simp [h1]
    have hL : anyF (fun u => flG F dn up st i j v i u && stepB dn up st u v) 60 0 = flw (F i) dn up st v := by
      have hf : (fun u => flG F dn up st i j v i u && stepB dn up st u v) = fun u => F i u && stepB dn up st u v := by
        funext u
        simp only [flG, hij, false_and, if_false]
      rw [hf]
      rfl
    rw [hL] at L
    rw [gv] at g
    simp only [cast1, Int.natCast_zero, Bool.false_or] at this L
    rw [← hn] at this
    clear hn hL
    rw [lpB_eq]
    generalize flw (F i) dn up st v = y at *
    generalize F j v = z at *
    clear gv ih
    cases z
    · simp only [Bool.false_and] at this
      rcases hW with rfl | rfl <;>
      simp (maxSteps := 1000000) (disch := first | omega | decide | assumption | simp [scal]) [o_indexAddrA ea_79, loadA_eq ia_4, sz_4, want_some q74_31g1, want_some q74_31g7, want_some q74_31g9, want_some q74_31g15, want_some q74_33g7, e1, e2, e3, g, s, L, ins, this, bT_len]
    · simp only [Bool.true_and] at this
      rcases hW with rfl | rfl <;>
      simp (maxSteps := 1000000) (disch := first | omega | decide | assumption | simp [scal]) [o_indexAddrA ea_79, loadA_eq ia_4, sz_4, want_some q74_31g1, want_some q74_31g7, want_some q74_31g9, want_some q74_31g15, want_some q74_33g7, e1, e2, e3, g, s, L, ins, this, bT_len]
theorem c74 (hd : 0 ≤ dn ∧ dn ≤ 1000) (hu : 0 ≤ up ∧ up ≤ 1000) (hi : i < 10) (hj : j < 10) (hij : i ≠ j) :
    LL.run 74 [.pointer (some ⟨0, i * 60, none⟩), .pointer (some ⟨0, j * 60, none⟩), iv dn, iv up, .bool st] [.cells (bT F) 1 true true] = some ⟨.tuple #[], [], [(0, .cells (bT (flG F dn up st i j 60)) 1 true true)]⟩ := by
  refine go (by decide) ?_
  rw [run74 _ _ _ (by simp)]
  have this := l74_o F dn up st i j hd hu hi hj hij 60 0 (by omega) [] (.inl rfl) (by simp)
  have h0 : flG F dn up st i j 0 = F := by funext a b; simp [flG]
  rw [h0] at this
  simp only [Int.natCast_zero] at this
  simp (maxSteps := 1000000) (disch := first | omega | decide | assumption | simp [scal]) [o_indexAddrA ea_79, loadA_eq ia_4, sz_4, want_some q74_31g1, want_some q74_31g7, want_some q74_31g9, want_some q74_31g15, want_some q74_33g7, this, endS_normal]
theorem k74 (hd : 0 ≤ dn ∧ dn ≤ 1000) (hu : 0 ≤ up ∧ up ≤ 1000) (hi : i < 10) (hj : j < 10) (hij : i ≠ j) {b : Nat} {h : List Blk} (hb : h[b]? = some (.cells (bT F) 1 true true)) :
    callH LL 74 [.pointer (some ⟨b, i * 60, none⟩), .pointer (some ⟨b, j * 60, none⟩), iv dn, iv up, .bool st] h = some ⟨.tuple #[], h.set b (.cells (bT (flG F dn up st i j 60)) 1 true true), [b], [b]⟩ := by
  have e := c74 F dn up st i j hd hu hi hj hij
  refine callH_of (by intro _; first | trivial | rfl) ?_ (by simpa using (List.getElem?_eq_some_iff.1 hb).1)
  unfold callH0
  have hp : ([.pointer (some ⟨b, i * 60, none⟩), .pointer (some ⟨b, j * 60, none⟩), iv dn, iv up, .bool st] : List Value).flatMap (ptrV dep) = [b, b] := rfl
  have hr : optAll (renV (idx [b]) dep) [.pointer (some ⟨b, i * 60, none⟩), .pointer (some ⟨b, j * 60, none⟩), iv dn, iv up, .bool st] = some [.pointer (some ⟨0, i * 60, none⟩), .pointer (some ⟨0, j * 60, none⟩), iv dn, iv up, .bool st] := by simp [renV, dep, optAll, idx, nbeq]
  have h1 : reach h 0 reachN [b, b] [] = [b] := by
    obtain ⟨q, hq⟩ : ∃ q, reachN = q + 5 := ⟨99995, rfl⟩
    rw [hq]
    simp [reach, mem, nblt, nbeq, hb, ptrB]
  rw [hp, h1]
  simp only [hr]
  have hl : ∀ (F : Nat → Nat → Bool) g, renB g (.cells (bT F) 1 true true) = some (.cells (bT F) 1 true true) := fun _ _ => rfl
  simp [optAll, hb, hl, e, mergeB, renV_tuple, renL, dep]
end
end Go.Proofs.Ytiafgimgcbmgaaa.bl
namespace Go.Proofs.Ytiafgimgcbmgaaa.bl
open Go.GE
set_option linter.unusedVariables false
set_option linter.unusedSimpArgs false
set_option maxRecDepth 100000
set_option maxHeartbeats 4000000
attribute [local simp] runOps_nil runOps_cons runOpsF_nil runOpsF_cons fstS_some fstF_some opStep_eq want_none oStep_true oStep_false fin_pure fin_read fin_alloc fin_write storeB wrN cellV addWr o_move o_assign o_pick o_alloc o_box o_load o_store o_nilCheck o_bin o_un o_extract o_callV o_callB o_callI callV_f callV_y callV_fc o_makeFunc partsA Instr.fill builtin_len builtin_max2 bin_add bin_sub bin_mul bin_quo bin_rem bin_lss bin_leq bin_gtr bin_geq bin_eql bin_neq un_neg un_not bin_shr bin_shl wrap_u64_id opd opds optAll putO nbeq nblt constOk isC ops sub cl cr co bodyOf thenS_normal thenS_ret thenS_exit thenS_goto afterN_normal afterN_ret afterN_exit afterN_goto condS_true condS_false blockS_normal blockS_ret blockS_exit blockS_goto headS normS normK_eq fixS_nil fixS_cons fix1 fixV emptyB keepO_nil keepO_cons roundC_normal roundC_exit roundC_ret roundC_goto sweep_eq sweepD rnm pickR pickW rootsB ptrT renT ptrFn renFn ptrB_flat ptrB_non renB_flat renB_non plainS_some drawS_some fpsOk disj unord range' dropTo enumT undef wrap_i64_id Value.cells mkCells ptrTo scal cellsAt rdN endS_ret resultsA Option.bind_some tupV finish reachN dep ptrL_eq ptrL renL_eq renL ptrV_bool ptrV_int ptrV_string ptrV_nilFunc ptrV_nilIface ptrV_nilPtr ptrV_ptr ptrV_nilSl ptrV_sl ptrV_iface ptrV_agg ptrV_tuple ptrV_func renV_bool renV_int renV_string renV_nilFunc renV_nilIface renV_nilPtr renV_ptr renV_nilSl renV_sl renV_iface renV_agg renV_tuple renV_func gotoS_goto gotoS_normal gotoS_exit gotoS_ret skip_seq sliceE bnd bndHi intOf optOpd keepT_nil keepT_cons keepC_t keepC_f lk_nil lk_cons lkC_t lkC_f has_nil has_cons hasC_t hasC_f rep_nil rep_cons repC_t repC_f put_eq putC_t putC_f mem_nil mem_cons memC_t memC_f idx_nil idx_cons idxC_t idxC_f reach_nil reach_cons reachC_t reachC_f
attribute [local simp] n41_1s n41_3s n41_6s n41_10s n41_13s n41_14s n41_12s n41_18s n41_20s n41_24s n41_27s n41_28s n41_26s n41_32s n41_34s n41_36s n41_40s n41_43s n41_44s n41_42s n41_48s n41_50s n41_52s n41_53s n41_51s n41_49s n41_47s n41_46s n41_54s n41_45s n41_41s n41_39s n41_38s n41_38g n41_37s n41_35s n41_33s n41_31s n41_30s n41_55s n41_29s n41_25s n41_23s n41_22s n41_22g n41_21s n41_19s n41_17s n41_16s n41_56s n41_15s n41_11s n41_9s n41_8s n41_8g n41_7s n41_5s n41_59s n41_64s n41_66s n41_67s n41_65s n41_63s n41_70s n41_69s n41_71s n41_68s n41_62s n41_61s n41_61g n41_60s n41_58s n41_74s n41_79s n41_81s n41_82s n41_80s n41_78s n41_85s n41_84s n41_86s n41_83s n41_77s n41_76s n41_76g n41_75s n41_73s n41_88s n41_89s n41_87s n41_72s n41_57s n41_4s n41_2s n41_0s Try.f41
/-- does an absolute forbid a value at an hour? -/
def forb (l : Nat → Ab) (h v k : Nat) : Bool := decide ((l k).h = h) && (decide ((v : Int) - 20 < (l k).lo) || decide ((l k).hi < (v : Int) - 20))
def alw (n : Nat) (l : Nat → Ab) (h v : Nat) : Bool := !anyF (forb l h v) n 0
/-- the rounds up to (h, v) are done -/
def alG (n : Nat) (l : Nat → Ab) (h v : Nat) : Nat → Nat → Bool := fun a b => if a < h ∨ a = h ∧ b < v then alw n l a b else false
section
variable (r f : Int) (off n c : Nat) {cs : List Value} {own : Bool} {l : Nat → Ab} (w : Nat)
theorem l41_4 (S : Sht r f n l) (hc : AbC cs off n l) (h v : Nat) (hh : h < 10) (hv : v < 60) (F : Nat → Nat → Bool) : ∀ q k : Nat, k + q = n → ∀ x : Bool,
    lpB Try.prog LL ⟨41, 96, 1, none⟩ n41_38 n41_39 ⟨[(7, iv v), (23, .slice (some ⟨0, off, none⟩) n c), (24, iv n), (25, iv k), (6, iv h), (15, iv v), (1, iv w), (2, pp 1), (4, pp 2), (5, pp 3), (12, iv h)],
      [.cells cs 3 true own, shB r f 0 off n c, .cells (bT fun _ _ => false) 1 true true, .cells (bT (upd F h v x)) 1 true true], []⟩ =
      some (.exit 4, ⟨[(6, iv h), (15, iv v), (1, iv w), (2, pp 1), (4, pp 2), (5, pp 3), (12, iv h)],
        [.cells cs 3 true own, shB r f 0 off n c, .cells (bT fun _ _ => false) 1 true true, .cells (bT (upd F h v (x && !anyF (forb l h v) q k))) 1 true true], []⟩) := by
  intro q
  induction q with
  | zero =>
    intro k hk x
    obtain rfl : k = n := by omega
    simp only [anyF, Bool.not_false, Bool.and_true]
    generalize upd F h v x = G
    generalize (fun _ _ => false : Nat → Nat → Bool) = Z
    rw [lpB_eq]
    simp (maxSteps := 1000000) (disch := first | omega | decide | assumption | simp [scal]) [za_80, o_indexAddrA ea_80, o_indexAddrA ea_79, sz_4, o_fieldAddr fa_24_2 (by decide), loadA_eq ia_22, lenA_sl lk_22, o_indexAddrS es_22, loadA_eq ia_59, za_59, sz_59, o_fieldAddr fa_59_0 (by decide), loadA_eq ia_3, o_fieldAddr fa_59_1 (by decide), o_fieldAddr fa_57_0 (by decide), o_fieldAddr fa_57_1 (by decide), o_fieldAddr fa_24_1 (by decide), o_fieldAddr fa_24_0 (by decide), loadA_eq ia_80, sz_80, loadA_eq ia_4, want_some q41_50g4, want_some q41_50g11]
  | succ q ih =>
    intro k hk x
    have e1 : k < n := by omega
    have e2 : (k : Int) < n := by omega
    have this := ih (k + 1) (by omega)
    obtain ⟨q2, q3, q4⟩ := hc k e1
    have e3 : h * 60 + v < 600 := by omega
    have e4 : (h : Int) < 10 := by omega
    have e5 : (v : Int) < 60 := by omega
    have n40 := S.n40
    have s := fun y => bT_set (F := upd F h v y) (x := false) hh hv
    have su : ∀ y, upd (upd F h v y) h v false = upd F h v false := by
      intro y; funext a b; simp only [upd]; split <;> rfl
    simp only [su] at s
    have hf : forb l h v k = (decide ((l k).h = h) && (decide ((v : Int) - 20 < (l k).lo) || decide ((l k).hi < (v : Int) - 20))) := rfl
    have o := S.ok k e1
    have o2 := o.l0
    have o3 := o.l1
    have o4 := o.l2
    rw [lpB_eq]
    simp only [anyF]
    generalize hZ : (fun _ _ => false : Nat → Nat → Bool) = Z at *
    generalize anyF (forb l h v) q (k + 1) = Y at *
    generalize forb l h v k = X at *
    simp only [cast1] at this
    generalize l k = a at *
    obtain ⟨ah, al, au⟩ := a
    simp only [] at *
    have this1 := this x
    have this2 := this false
    clear this
    by_cases w1 : ah = (h : Int)
    · by_cases w2 : (v : Int) - 20 < al
      · simp only [w1, w2, decide_true, Bool.true_or, Bool.and_true] at hf
        subst hf
        subst w1
        simp only [Bool.true_or, Bool.not_true, Bool.and_false, Bool.false_and] at this2 ⊢
        simp (maxSteps := 1000000) (disch := first | omega | decide | assumption | simp [scal]) [za_80, o_indexAddrA ea_80, o_indexAddrA ea_79, sz_4, o_fieldAddr fa_24_2 (by decide), loadA_eq ia_22, lenA_sl lk_22, o_indexAddrS es_22, loadA_eq ia_59, za_59, sz_59, o_fieldAddr fa_59_0 (by decide), loadA_eq ia_3, o_fieldAddr fa_59_1 (by decide), o_fieldAddr fa_57_0 (by decide), o_fieldAddr fa_57_1 (by decide), o_fieldAddr fa_24_1 (by decide), o_fieldAddr fa_24_0 (by decide), loadA_eq ia_80, sz_80, loadA_eq ia_4, want_some q41_50g4, want_some q41_50g11, e1, e2, e3, e4, e5, q2, q3, q4, w2, s, bT_len, this2]
      · by_cases w3 : au < (v : Int) - 20
        · simp only [w1, w2, w3, decide_true, decide_false, Bool.or_true, Bool.and_true] at hf
          subst hf
          subst w1
          simp only [Bool.true_or, Bool.not_true, Bool.and_false, Bool.false_and] at this2 ⊢
          simp (maxSteps := 1000000) (disch := first | omega | decide | assumption | simp [scal]) [za_80, o_indexAddrA ea_80, o_indexAddrA ea_79, sz_4, o_fieldAddr fa_24_2 (by decide), loadA_eq ia_22, lenA_sl lk_22, o_indexAddrS es_22, loadA_eq ia_59, za_59, sz_59, o_fieldAddr fa_59_0 (by decide), loadA_eq ia_3, o_fieldAddr fa_59_1 (by decide), o_fieldAddr fa_57_0 (by decide), o_fieldAddr fa_57_1 (by decide), o_fieldAddr fa_24_1 (by decide), o_fieldAddr fa_24_0 (by decide), loadA_eq ia_80, sz_80, loadA_eq ia_4, want_some q41_50g4, want_some q41_50g11, e1, e2, e3, e4, e5, q2, q3, q4, w2, w3, s, bT_len, this2]
        · simp only [w1, w2, w3, decide_true, decide_false, Bool.or_false, Bool.and_false] at hf
          subst hf
          subst w1
          simp only [Bool.false_or] at this1 ⊢
          generalize upd F h v x = G at *
          simp (maxSteps := 1000000) (disch := first | omega | decide | assumption | simp [scal]) [za_80, o_indexAddrA ea_80, o_indexAddrA ea_79, sz_4, o_fieldAddr fa_24_2 (by decide), loadA_eq ia_22, lenA_sl lk_22, o_indexAddrS es_22, loadA_eq ia_59, za_59, sz_59, o_fieldAddr fa_59_0 (by decide), loadA_eq ia_3, o_fieldAddr fa_59_1 (by decide), o_fieldAddr fa_57_0 (by decide), o_fieldAddr fa_57_1 (by decide), o_fieldAddr fa_24_1 (by decide), o_fieldAddr fa_24_0 (by decide), loadA_eq ia_80, sz_80, loadA_eq ia_4, want_some q41_50g4, want_some q41_50g11, e1, e2, e3, e4, e5, q2, q3, q4, w2, w3, this1]
    · simp only [w1, decide_false, Bool.false_and] at hf
      subst hf
      simp only [Bool.false_or] at this1 ⊢
      generalize upd F h v x = G at *
      simp (maxSteps := 1000000) (disch := first | omega | decide | assumption | simp [scal]) [za_80, o_indexAddrA ea_80, o_indexAddrA ea_79, sz_4, o_fieldAddr fa_24_2 (by decide), loadA_eq ia_22, lenA_sl lk_22, o_indexAddrS es_22, loadA_eq ia_59, za_59, sz_59, o_fieldAddr fa_59_0 (by decide), loadA_eq ia_3, o_fieldAddr fa_59_1 (by decide), o_fieldAddr fa_57_0 (by decide), o_fieldAddr fa_57_1 (by decide), o_fieldAddr fa_24_1 (by decide), o_fieldAddr fa_24_0 (by decide), loadA_eq ia_80, sz_80, loadA_eq ia_4, want_some q41_50g4, want_some q41_50g11, e1, e2, e3, e4, e5, q2, q3, q4, w1, this1]
theorem alG_next {n : Nat} {l : Nat → Ab} {h v : Nat} : upd (alG n l h v) h v (true && !anyF (forb l h v) n 0) = alG n l h (v + 1) := by
  funext a b
  simp only [upd, alG, Bool.true_and]
  by_cases h1 : a = h
  · subst h1
    by_cases h2 : b = v
    · subst h2
      rw [if_pos ⟨rfl, rfl⟩, if_pos (Or.inr ⟨rfl, by omega⟩)]
      rfl
    · rw [if_neg (by omega)]
      by_cases h3 : b < v
      · rw [if_pos (by omega), if_pos (by omega)]
      · rw [if_neg (by omega), if_neg (by omega)]
  · rw [if_neg (by omega)]
    by_cases h3 : a < h
    · rw [if_pos (by omega), if_pos (by omega)]
    · rw [if_neg (by omega), if_neg (by omega)]
theorem l41_2 (S : Sht r f n l) (hc : AbC cs off n l) (h : Nat) (hh : h < 10) : ∀ q v : Nat, v + q = 60 →
    lpB Try.prog LL ⟨41, 96, 1, none⟩ n41_22 n41_23 ⟨[(6, iv h), (15, iv v), (1, iv w), (2, pp 1), (4, pp 2), (5, pp 3), (12, iv h)],
      [.cells cs 3 true own, shB r f 0 off n c, .cells (bT fun _ _ => false) 1 true true, .cells (bT (alG n l h v)) 1 true true], []⟩ =
      some (.exit 2, ⟨[(1, iv w), (2, pp 1), (4, pp 2), (5, pp 3), (12, iv h)],
        [.cells cs 3 true own, shB r f 0 off n c, .cells (bT fun _ _ => false) 1 true true, .cells (bT (alG n l (h + 1) 0)) 1 true true], []⟩) := by
  intro q
  induction q with
  | zero =>
    intro v hv
    obtain rfl : v = 60 := by omega
    have e : bT (alG n l h 60) = bT (alG n l (h + 1) 0) := bT_congr fun a b ha hb => by
      simp only [alG]
      by_cases h1 : a < h + 1
      · rw [if_pos (by omega), if_pos (by omega)]
      · rw [if_neg (by omega), if_neg (by omega)]
    rw [e]
    generalize (fun _ _ => false : Nat → Nat → Bool) = Z
    rw [lpB_eq]
    simp (maxSteps := 1000000) (disch := first | omega | decide | assumption | simp [scal]) [za_80, o_indexAddrA ea_80, o_indexAddrA ea_79, sz_4, o_fieldAddr fa_24_2 (by decide), loadA_eq ia_22, lenA_sl lk_22, o_indexAddrS es_22, loadA_eq ia_59, za_59, sz_59, o_fieldAddr fa_59_0 (by decide), loadA_eq ia_3, o_fieldAddr fa_59_1 (by decide), o_fieldAddr fa_57_0 (by decide), o_fieldAddr fa_57_1 (by decide), o_fieldAddr fa_24_1 (by decide), o_fieldAddr fa_24_0 (by decide), loadA_eq ia_80, sz_80, loadA_eq ia_4, want_some q41_50g4, want_some q41_50g11]
  | succ q ih =>
    intro v hv
    have e1 : (v : Int) < 60 := by omega
    have e2 : v < 60 := by omega
    have e3 : h * 60 + v < 600 := by omega
    have e4 : (h : Int) < 10 := by omega
    have this := ih (v + 1) (by omega)
    have L := l41_4 r f off n c (cs := cs) (own := own) (l := l) w S hc h v hh e2 (alG n l h v) n 0 (by omega) true
    rw [alG_next] at L
    have s := bT_set (F := alG n l h v) (x := true) hh e2
    generalize hZ : (fun _ _ => false : Nat → Nat → Bool) = Z at *
    simp only [cast1, Int.natCast_zero] at this L
    rw [lpB_eq]
    simp (maxSteps := 1000000) (disch := first | omega | decide | assumption | simp [scal]) [za_80, o_indexAddrA ea_80, o_indexAddrA ea_79, sz_4, o_fieldAddr fa_24_2 (by decide), loadA_eq ia_22, lenA_sl lk_22, o_indexAddrS es_22, loadA_eq ia_59, za_59, sz_59, o_fieldAddr fa_59_0 (by decide), loadA_eq ia_3, o_fieldAddr fa_59_1 (by decide), o_fieldAddr fa_57_0 (by decide), o_fieldAddr fa_57_1 (by decide), o_fieldAddr fa_24_1 (by decide), o_fieldAddr fa_24_0 (by decide), loadA_eq ia_80, sz_80, loadA_eq ia_4, want_some q41_50g4, want_some q41_50g11, e1, e2, e3, e4, s, bT_len, L, this]
theorem l41_0 (S : Sht r f n l) (hc : AbC cs off n l) : ∀ q h : Nat, h + q = 10 →
    lpB Try.prog LL ⟨41, 96, 1, none⟩ n41_8 n41_9 ⟨[(1, iv w), (2, pp 1), (4, pp 2), (5, pp 3), (12, iv h)],
      [.cells cs 3 true own, shB r f 0 off n c, .cells (bT fun _ _ => false) 1 true true, .cells (bT (alG n l h 0)) 1 true true], []⟩ =
      some (.exit 0, ⟨[(1, iv w), (2, pp 1), (4, pp 2), (5, pp 3)],
        [.cells cs 3 true own, shB r f 0 off n c, .cells (bT fun _ _ => false) 1 true true, .cells (bT (alw n l)) 1 true true], []⟩) := by
  intro q
  induction q with
  | zero =>
    intro h hv
    obtain rfl : h = 10 := by omega
    have e : bT (alG n l 10 0) = bT (alw n l) := bT_congr fun a b ha hb => by
      simp only [alG]
      rw [if_pos (by omega)]
    rw [e]
    generalize (fun _ _ => false : Nat → Nat → Bool) = Z
    rw [lpB_eq]
    simp (maxSteps := 1000000) (disch := first | omega | decide | assumption | simp [scal]) [za_80, o_indexAddrA ea_80, o_indexAddrA ea_79, sz_4, o_fieldAddr fa_24_2 (by decide), loadA_eq ia_22, lenA_sl lk_22, o_indexAddrS es_22, loadA_eq ia_59, za_59, sz_59, o_fieldAddr fa_59_0 (by decide), loadA_eq ia_3, o_fieldAddr fa_59_1 (by decide), o_fieldAddr fa_57_0 (by decide), o_fieldAddr fa_57_1 (by decide), o_fieldAddr fa_24_1 (by decide), o_fieldAddr fa_24_0 (by decide), loadA_eq ia_80, sz_80, loadA_eq ia_4, want_some q41_50g4, want_some q41_50g11]
  | succ q ih =>
    intro h hv
    have e4 : (h : Int) < 10 := by omega
    have this := ih (h + 1) (by omega)
    have L := l41_2 r f off n c (cs := cs) (own := own) (l := l) w S hc h (by omega) 60 0 (by omega)
    generalize hZ : (fun _ _ => false : Nat → Nat → Bool) = Z at *
    simp only [cast1, Int.natCast_zero] at this L
    rw [lpB_eq]
    simp (maxSteps := 1000000) (disch := first | omega | decide | assumption | simp [scal]) [za_80, o_indexAddrA ea_80, o_indexAddrA ea_79, sz_4, o_fieldAddr fa_24_2 (by decide), loadA_eq ia_22, lenA_sl lk_22, o_indexAddrS es_22, loadA_eq ia_59, za_59, sz_59, o_fieldAddr fa_59_0 (by decide), loadA_eq ia_3, o_fieldAddr fa_59_1 (by decide), o_fieldAddr fa_57_0 (by decide), o_fieldAddr fa_57_1 (by decide), o_fieldAddr fa_24_1 (by decide), o_fieldAddr fa_24_0 (by decide), loadA_eq ia_80, sz_80, loadA_eq ia_4, want_some q41_50g4, want_some q41_50g11, e4, L, this]
end
def bitB (w h : Nat) : Bool := decide (w / 2 ^ h % 2 = 1)
def rowF (al : Nat → Nat → Bool) (r f : Int) (w : Nat) : Nat → Nat → Bool
  | 0 => al 0
  | h + 1 => fun v => al (h + 1) v && flw (rowF al r f w h) f r (bitB w h) v
def rowH (al : Nat → Nat → Bool) (r f : Int) (w : Nat) : Nat → Nat → Bool
  | 0 => rowF al r f w 9
  | k + 1 => fun v => rowF al r f w (8 - k) v && flw (rowH al r f w k) r f (bitB w (8 - k)) v
def tabS (al : Nat → Nat → Bool) (r f : Int) (w : Nat) (h v : Nat) : Bool := rowH al r f w (9 - h) v
def T6 (al : Nat → Nat → Bool) (r f : Int) (w h : Nat) : Nat → Nat → Bool := fun a b => if a < h then rowF al r f w a b else al a b
def T8 (al : Nat → Nat → Bool) (r f : Int) (w m : Nat) : Nat → Nat → Bool := fun a b => if a < m then rowF al r f w a b else rowH al r f w (9 - a) b
theorem T6_next {al : Nat → Nat → Bool} {r f : Int} {w k : Nat} (hk : k + 1 < 10) : bT (flG (T6 al r f w (k + 1)) f r (bitB w k) k (k + 1) 60) = bT (T6 al r f w (k + 2)) := bT_congr fun a b ha hb => by
  have e : T6 al r f w (k + 1) k = rowF al r f w k := by funext v; simp only [T6, if_pos (show k < k + 1 by omega)]
  simp only [flG, e]
  by_cases h : a = k + 1
  · subst h
    rw [if_pos ⟨rfl, hb⟩]
    simp only [T6]
    rw [if_neg (by omega), if_pos (by omega)]
    rfl
  · rw [if_neg (by omega)]
    simp only [T6]
    by_cases h2 : a < k + 1
    · rw [if_pos h2, if_pos (by omega)]
    · rw [if_neg h2, if_neg (by omega)]
theorem T8_next {al : Nat → Nat → Bool} {r f : Int} {w m : Nat} (hm : m < 9) : bT (flG (T8 al r f w (m + 1)) r f (bitB w m) (m + 1) m 60) = bT (T8 al r f w m) := bT_congr fun a b ha hb => by
  have e : T8 al r f w (m + 1) (m + 1) = rowH al r f w (8 - m) := by funext v; simp only [T8]; rw [if_neg (by omega), show 9 - (m + 1) = 8 - m by omega]
  simp only [flG, e]
  by_cases h : a = m
  · subst h
    rw [if_pos ⟨rfl, hb⟩]
    simp only [T8]
    rw [if_pos (by omega), if_neg (by omega)]
    obtain ⟨q, hq⟩ : ∃ q, 9 - a = q + 1 := ⟨8 - a, by omega⟩
    rw [hq, show 8 - a = q by omega]
    simp only [rowH]
    rw [show 8 - q = a by omega]
  · rw [if_neg (by omega)]
    simp only [T8]
    by_cases h2 : a < m
    · rw [if_pos (by omega), if_pos (by omega)]
    · rw [if_neg (by omega), if_neg (by omega)]
end Go.Proofs.Ytiafgimgcbmgaaa.bl
namespace Go.Proofs.Ytiafgimgcbmgaaa.bl
open Go.GE
set_option linter.unusedVariables false
set_option linter.unusedSimpArgs false
set_option maxRecDepth 100000
set_option maxHeartbeats 4000000
attribute [local simp] runOps_nil runOps_cons runOpsF_nil runOpsF_cons fstS_some fstF_some opStep_eq want_none oStep_true oStep_false fin_pure fin_read fin_alloc fin_write storeB wrN cellV addWr o_move o_assign o_pick o_alloc o_box o_load o_store o_nilCheck o_bin o_un o_extract o_callV o_callB o_callI callV_f callV_y callV_fc o_makeFunc partsA Instr.fill builtin_len builtin_max2 bin_add bin_sub bin_mul bin_quo bin_rem bin_lss bin_leq bin_gtr bin_geq bin_eql bin_neq un_neg un_not bin_shr bin_shl wrap_u64_id opd opds optAll putO nbeq nblt constOk isC ops sub cl cr co bodyOf thenS_normal thenS_ret thenS_exit thenS_goto afterN_normal afterN_ret afterN_exit afterN_goto condS_true condS_false blockS_normal blockS_ret blockS_exit blockS_goto headS normS normK_eq fixS_nil fixS_cons fix1 fixV emptyB keepO_nil keepO_cons roundC_normal roundC_exit roundC_ret roundC_goto sweep_eq sweepD rnm pickR pickW rootsB ptrT renT ptrFn renFn ptrB_flat ptrB_non renB_flat renB_non plainS_some drawS_some fpsOk disj unord range' dropTo enumT undef wrap_i64_id Value.cells mkCells ptrTo scal cellsAt rdN endS_ret resultsA Option.bind_some tupV finish reachN dep ptrL_eq ptrL renL_eq renL ptrV_bool ptrV_int ptrV_string ptrV_nilFunc ptrV_nilIface ptrV_nilPtr ptrV_ptr ptrV_nilSl ptrV_sl ptrV_iface ptrV_agg ptrV_tuple ptrV_func renV_bool renV_int renV_string renV_nilFunc renV_nilIface renV_nilPtr renV_ptr renV_nilSl renV_sl renV_iface renV_agg renV_tuple renV_func gotoS_goto gotoS_normal gotoS_exit gotoS_ret skip_seq sliceE bnd bndHi intOf optOpd keepT_nil keepT_cons keepC_t keepC_f lk_nil lk_cons lkC_t lkC_f has_nil has_cons hasC_t hasC_f rep_nil rep_cons repC_t repC_f put_eq putC_t putC_f mem_nil mem_cons memC_t memC_f idx_nil idx_cons idxC_t idxC_f reach_nil reach_cons reachC_t reachC_f
attribute [local simp] n41_1s n41_3s n41_6s n41_10s n41_13s n41_14s n41_12s n41_18s n41_20s n41_24s n41_27s n41_28s n41_26s n41_32s n41_34s n41_36s n41_40s n41_43s n41_44s n41_42s n41_48s n41_50s n41_52s n41_53s n41_51s n41_49s n41_47s n41_46s n41_54s n41_45s n41_41s n41_39s n41_38s n41_38g n41_37s n41_35s n41_33s n41_31s n41_30s n41_55s n41_29s n41_25s n41_23s n41_22s n41_22g n41_21s n41_19s n41_17s n41_16s n41_56s n41_15s n41_11s n41_9s n41_8s n41_8g n41_7s n41_5s n41_59s n41_64s n41_66s n41_67s n41_65s n41_63s n41_70s n41_69s n41_71s n41_68s n41_62s n41_61s n41_61g n41_60s n41_58s n41_74s n41_79s n41_81s n41_82s n41_80s n41_78s n41_85s n41_84s n41_86s n41_83s n41_77s n41_76s n41_76g n41_75s n41_73s n41_88s n41_89s n41_87s n41_72s n41_57s n41_4s n41_2s n41_0s Try.f41
theorem bT_arr {F : Nat → Nat → Bool} : (bT F).toArray.all scal 0 600 = true := by
  have h : (bT F).toArray.size = 600 := by simp [bT_len]
  have : (bT F).toArray.all scal 0 (bT F).toArray.size = true := by simp [bT_all]
  rwa [h] at this
theorem bit_eq (w h : Nat) : (decide ((((w / 2 ^ h : Nat) : Int) % 2) = 1)) = bitB w h := by
  unfold bitB
  rw [Bool.eq_iff_iff, decide_eq_true_eq, decide_eq_true_eq]
  omega
theorem bT_ptr {F : Nat → Nat → Bool} : ptrL 5 (bT F) = [] := by rw [← ptrL_eq]; exact ptrV_scal bT_all
theorem bT_ren {F : Nat → Nat → Bool} {f : Nat → Option Nat} : renL f 5 (bT F) = some (bT F) := by rw [← renL_eq]; exact optAll_scal (d := 4) bT_all
section
variable (r f : Int) (off n c : Nat) {cs : List Value} {own : Bool} {l : Nat → Ab} (w : Nat)
theorem l41_6 (D : Dr r f) (al : Nat → Nat → Bool) (hw : w < 1024) : ∀ q k : Nat, k + q = 9 →
    lpB Try.prog LL ⟨41, 96, 1, none⟩ n41_61 n41_62 ⟨[(1, iv w), (2, pp 1), (4, pp 2), (5, pp 3), (10, iv ((k : Int) + 1))],
      [.cells cs 3 true own, shB r f 0 off n c, .cells (bT fun _ _ => false) 1 true true, .cells (bT (T6 al r f w (k + 1))) 1 true true], []⟩ =
      some (.exit 6, ⟨[(1, iv w), (2, pp 1), (4, pp 2), (5, pp 3)],
        [.cells cs 3 true own, shB r f 0 off n c, .cells (bT fun _ _ => false) 1 true true, .cells (bT (T8 al r f w 9)) 1 true true], []⟩) := by
  obtain ⟨d1, d2, d3, d4⟩ := D
  intro q
  induction q with
  | zero =>
    intro k hk
    obtain rfl : k = 9 := by omega
    have e : bT (T6 al r f w (9 + 1)) = bT (T8 al r f w 9) := bT_congr fun a b ha hb => by
      simp only [T6, T8]
      rw [if_pos (by omega)]
      by_cases h : a < 9
      · rw [if_pos h]
      · rw [if_neg h]
        obtain rfl : a = 9 := by omega
        rfl
    rw [e]
    generalize (fun _ _ => false : Nat → Nat → Bool) = Z
    generalize bT (T8 al r f w 9) = E
    rw [lpB_eq]
    simp (maxSteps := 1000000) (disch := first | omega | decide | assumption | simp [scal]) [za_80, o_indexAddrA ea_80, o_indexAddrA ea_79, sz_4, o_fieldAddr fa_24_2 (by decide), loadA_eq ia_22, lenA_sl lk_22, o_indexAddrS es_22, loadA_eq ia_59, za_59, sz_59, o_fieldAddr fa_59_0 (by decide), loadA_eq ia_3, o_fieldAddr fa_59_1 (by decide), o_fieldAddr fa_57_0 (by decide), o_fieldAddr fa_57_1 (by decide), o_fieldAddr fa_24_1 (by decide), o_fieldAddr fa_24_0 (by decide), loadA_eq ia_80, sz_80, loadA_eq ia_4, want_some q41_50g4, want_some q41_50g11]
  | succ q ih =>
    intro k hk
    have e1 : (k : Int) + 1 < 10 := by omega
    have e2 : ((k : Int) + 1).toNat = k + 1 := by omega
    have e4 : (k : Int) < 10 := by omega
    have e5 : (0 : Int) ≤ (k : Int) + 1 := by omega
    have this := ih (k + 1) (by omega)
    have cq := fun b0 b1 b2 => k74 (T6 al r f w (k + 1)) f r (bitB w k) k (k + 1) ⟨d3, d4⟩ ⟨d1, d2⟩ (by omega) (by omega) (by omega) (b := 3) (h := b0 :: b1 :: b2 :: .cells (bT (T6 al r f w (k + 1))) 1 true true :: []) rfl
    rw [T6_next (by omega)] at cq
    have hq : w / 2 ^ k < 2 ^ 62 := by have := Nat.div_le_self w (2 ^ k); omega
    have s1 := @fdiv_pow w k (by omega)
    have s2 := fun c => @bin_and1 Try.prog 3 c _ hq
    have s3 := bit_eq w k
    generalize (fun _ _ => false : Nat → Nat → Bool) = Z at *
    generalize bitB w k = bb at *
    generalize w / 2 ^ k = ww at *
    simp only [cast1] at this cq
    generalize bT (T6 al r f w (k + 1)) = M1 at *
    generalize bT (T6 al r f w (k + 2)) = M2 at *
    rw [lpB_eq]
    simp (maxSteps := 1000000) (disch := first | omega | decide | assumption | simp [scal]) [za_80, o_indexAddrA ea_80, o_indexAddrA ea_79, sz_4, o_fieldAddr fa_24_2 (by decide), loadA_eq ia_22, lenA_sl lk_22, o_indexAddrS es_22, loadA_eq ia_59, za_59, sz_59, o_fieldAddr fa_59_0 (by decide), loadA_eq ia_3, o_fieldAddr fa_59_1 (by decide), o_fieldAddr fa_57_0 (by decide), o_fieldAddr fa_57_1 (by decide), o_fieldAddr fa_24_1 (by decide), o_fieldAddr fa_24_0 (by decide), loadA_eq ia_80, sz_80, loadA_eq ia_4, want_some q41_50g4, want_some q41_50g11, e1, e2, e4, e5, s1, s2, s3, cq, this]
theorem l41_8 (D : Dr r f) (al : Nat → Nat → Bool) (hw : w < 1024) : ∀ m : Nat, m ≤ 9 →
    lpB Try.prog LL ⟨41, 96, 1, none⟩ n41_76 n41_77 ⟨[(1, iv w), (2, pp 1), (4, pp 2), (5, pp 3), (11, iv ((m : Int) - 1))],
      [.cells cs 3 true own, shB r f 0 off n c, .cells (bT fun _ _ => false) 1 true true, .cells (bT (T8 al r f w m)) 1 true true], []⟩ =
      some (.exit 8, ⟨[(4, pp 1), (5, pp 2)],
        [.cells cs 3 true own, .cells (bT fun _ _ => false) 1 true true, .cells (bT (tabS al r f w)) 1 true true], []⟩) := by
  obtain ⟨d1, d2, d3, d4⟩ := D
  intro m
  induction m with
  | zero =>
    intro _
    have e : bT (T8 al r f w 0) = bT (tabS al r f w) := bT_congr fun a b ha hb => by
      simp only [T8, tabS]
      rw [if_neg (by omega)]
    rw [e]
    generalize (fun _ _ => false : Nat → Nat → Bool) = Z
    generalize bT (tabS al r f w) = E
    rw [lpB_eq]
    simp (maxSteps := 1000000) (disch := first | omega | decide | assumption | simp [scal]) [za_80, o_indexAddrA ea_80, o_indexAddrA ea_79, sz_4, o_fieldAddr fa_24_2 (by decide), loadA_eq ia_22, lenA_sl lk_22, o_indexAddrS es_22, loadA_eq ia_59, za_59, sz_59, o_fieldAddr fa_59_0 (by decide), loadA_eq ia_3, o_fieldAddr fa_59_1 (by decide), o_fieldAddr fa_57_0 (by decide), o_fieldAddr fa_57_1 (by decide), o_fieldAddr fa_24_1 (by decide), o_fieldAddr fa_24_0 (by decide), loadA_eq ia_80, sz_80, loadA_eq ia_4, want_some q41_50g4, want_some q41_50g11]
  | succ m ih =>
    intro hm
    have e0 : (((m + 1 : Nat) : Int) - 1) = (m : Int) := by omega
    rw [e0]
    have e1 : (0 : Int) ≤ m := by omega
    have e2 : ((m : Int) + 1).toNat = m + 1 := by omega
    have e3 : m < 10 := by omega
    have e4 : (m : Int) < 10 := by omega
    have e5 : (m : Int) + 1 < 10 := by omega
    have e6 : (0 : Int) ≤ (m : Int) + 1 := by omega
    have this := ih (by omega)
    have cq := fun b0 b1 b2 => k74 (T8 al r f w (m + 1)) r f (bitB w m) (m + 1) m ⟨d1, d2⟩ ⟨d3, d4⟩ (by omega) (by omega) (by omega) (b := 3) (h := b0 :: b1 :: b2 :: .cells (bT (T8 al r f w (m + 1))) 1 true true :: []) rfl
    rw [T8_next (by omega)] at cq
    have hq : w / 2 ^ m < 2 ^ 62 := by have := Nat.div_le_self w (2 ^ m); omega
    have s1 := @fdiv_pow w m (by omega)
    have s2 := fun c => @bin_and1 Try.prog 3 c _ hq
    have s3 := bit_eq w m
    generalize (fun _ _ => false : Nat → Nat → Bool) = Z at *
    generalize bitB w m = bb at *
    generalize w / 2 ^ m = ww at *
    generalize bT (T8 al r f w (m + 1)) = M1 at *
    generalize bT (T8 al r f w m) = M2 at *
    generalize bT (tabS al r f w) = M3 at *
    rw [lpB_eq]
    simp (maxSteps := 1000000) (disch := first | omega | decide | assumption | simp [scal]) [za_80, o_indexAddrA ea_80, o_indexAddrA ea_79, sz_4, o_fieldAddr fa_24_2 (by decide), loadA_eq ia_22, lenA_sl lk_22, o_indexAddrS es_22, loadA_eq ia_59, za_59, sz_59, o_fieldAddr fa_59_0 (by decide), loadA_eq ia_3, o_fieldAddr fa_59_1 (by decide), o_fieldAddr fa_57_0 (by decide), o_fieldAddr fa_57_1 (by decide), o_fieldAddr fa_24_1 (by decide), o_fieldAddr fa_24_0 (by decide), loadA_eq ia_80, sz_80, loadA_eq ia_4, want_some q41_50g4, want_some q41_50g11, e1, e2, e3, e4, e5, e6, s1, s2, s3, cq, this]
theorem c41 (S : Sht r f n l) (hc : AbC cs off n l) (hw : w < 1024) : LL.run 41 [shV r f 0 off n c, iv w] [.cells cs 3 true own] = some ⟨.agg (bT (tabS (alw n l) r f w)).toArray, [], []⟩ := by
  refine go (by decide) ?_
  rw [run41 _ _ _ (by simp)]
  have L0 := l41_0 r f off n c (cs := cs) (own := own) (l := l) w S hc 10 0 (by omega)
  have h0 : bT (alG n l 0 0) = bT fun _ _ => false := bT_congr fun a b _ _ => by simp only [alG]; rw [if_neg (by omega)]
  rw [h0] at L0
  have L6 := l41_6 r f off n c (cs := cs) (own := own) w S.dr (alw n l) hw 9 0 (by omega)
  have h6 : bT (T6 (alw n l) r f w (0 + 1)) = bT (alw n l) := bT_congr fun a b _ _ => by
    simp only [T6]
    by_cases h : a < 0 + 1
    · rw [if_pos h]; obtain rfl : a = 0 := by omega
      rfl
    · rw [if_neg h]
  rw [h6] at L6
  have L8 := l41_8 r f off n c (cs := cs) (own := own) w S.dr (alw n l) hw 9 (by omega)
  generalize hZ : (fun _ _ => false : Nat → Nat → Bool) = Z at *
  have z80 := za80
  rw [hZ] at z80
  generalize bT (T8 (alw n l) r f w 9) = M1 at *
  generalize hE : tabS (alw n l) r f w = E at *
  generalize bT (alw n l) = M2 at *
  simp only [Int.natCast_zero, Int.zero_add, show ((9 : Nat) : Int) - 1 = 8 from rfl] at L0 L6 L8
  simp (maxSteps := 1000000) (disch := first | omega | decide | assumption | simp [scal]) [o_indexAddrA ea_79, sz_4, o_fieldAddr fa_24_2 (by decide), loadA_eq ia_22, lenA_sl lk_22, o_indexAddrS es_22, loadA_eq ia_59, za_59, sz_59, o_fieldAddr fa_59_0 (by decide), loadA_eq ia_3, o_fieldAddr fa_59_1 (by decide), o_fieldAddr fa_57_0 (by decide), o_fieldAddr fa_57_1 (by decide), o_fieldAddr fa_24_1 (by decide), o_fieldAddr fa_24_0 (by decide), loadA_eq ia_4, want_some q41_50g4, want_some q41_50g11, z80, ea_80, sz_80, ld80, rd600_T, wr_T, bT_arr, bT_len, bT_all, bT_ptr, bT_ren, L0, L6, L8]
theorem k41 {h : List Blk} {b : Nat} (S : Sht r f n l) (hb : h[b]? = some (.cells cs 3 true own)) (hc : AbC cs off n l) (hw : w < 1024) :
    callH LL 41 [shV r f b off n c, iv w] h = some ⟨.agg (bT (tabS (alw n l) r f w)).toArray, h, [b], []⟩ :=
  callH_1 rfl hb noIdB_flat (by simp [renV, dep, optAll, idx, nbeq]) (c41 r f off n c w S hc hw) fun g => renV_plain bT_plain
end
end Go.Proofs.Ytiafgimgcbmgaaa.bl
namespace Go.Proofs.Ytiafgimgcbmgaaa.bl
open Go.GE
set_option linter.unusedVariables false
set_option linter.unusedSimpArgs false
set_option maxRecDepth 100000
set_option maxHeartbeats 4000000
attribute [local simp] runOps_nil runOps_cons runOpsF_nil runOpsF_cons fstS_some fstF_some opStep_eq want_none oStep_true oStep_false fin_pure fin_read fin_alloc fin_write storeB wrN cellV addWr o_move o_assign o_pick o_alloc o_box o_load o_store o_nilCheck o_bin o_un o_extract o_callV o_callB o_callI callV_f callV_y callV_fc o_makeFunc partsA Instr.fill builtin_len builtin_max2 bin_add bin_sub bin_mul bin_quo bin_rem bin_lss bin_leq bin_gtr bin_geq bin_eql bin_neq un_neg un_not bin_shr bin_shl wrap_u64_id opd opds optAll putO nbeq nblt constOk isC ops sub cl cr co bodyOf thenS_normal thenS_ret thenS_exit thenS_goto afterN_normal afterN_ret afterN_exit afterN_goto condS_true condS_false blockS_normal blockS_ret blockS_exit blockS_goto headS normS normK_eq fixS_nil fixS_cons fix1 fixV emptyB keepO_nil keepO_cons roundC_normal roundC_exit roundC_ret roundC_goto sweep_eq sweepD rnm pickR pickW rootsB ptrT renT ptrFn renFn ptrB_flat ptrB_non renB_flat renB_non plainS_some drawS_some fpsOk disj unord range' dropTo enumT undef wrap_i64_id Value.cells mkCells ptrTo scal cellsAt rdN endS_ret resultsA Option.bind_some tupV finish reachN dep ptrL_eq ptrL renL_eq renL ptrV_bool ptrV_int ptrV_string ptrV_nilFunc ptrV_nilIface ptrV_nilPtr ptrV_ptr ptrV_nilSl ptrV_sl ptrV_iface ptrV_agg ptrV_tuple ptrV_func renV_bool renV_int renV_string renV_nilFunc renV_nilIface renV_nilPtr renV_ptr renV_nilSl renV_sl renV_iface renV_agg renV_tuple renV_func gotoS_goto gotoS_normal gotoS_exit gotoS_ret skip_seq sliceE bnd bndHi intOf optOpd keepT_nil keepT_cons keepC_t keepC_f lk_nil lk_cons lkC_t lkC_f has_nil has_cons hasC_t hasC_f rep_nil rep_cons repC_t repC_f put_eq putC_t putC_f mem_nil mem_cons memC_t memC_f idx_nil idx_cons idxC_t idxC_f reach_nil reach_cons reachC_t reachC_f
attribute [local simp] n40_1s n40_4s n40_8s n40_11s n40_12s n40_10s n40_16s n40_18s n40_21s n40_22s n40_20s n40_23s n40_19s n40_17s n40_15s n40_14s n40_24s n40_13s n40_9s n40_7s n40_6s n40_6g n40_5s n40_3s n40_26s n40_27s n40_25s n40_2s n40_0s Try.f40
theorem bR_arr {F : Nat → Bool} : (bR F).toArray.all scal 0 60 = true := by
  have h : (bR F).toArray.size = 60 := by simp [bR_len]
  have : (bR F).toArray.all scal 0 (bR F).toArray.size = true := by simp [bR_all]
  rwa [h] at this
theorem bR_ptr {F : Nat → Bool} : ptrL 5 (bR F) = [] := by rw [← ptrL_eq]; exact ptrV_scal bR_all
theorem bR_ren {F : Nat → Bool} {f : Nat → Option Nat} : renL f 5 (bR F) = some (bR F) := by rw [← renL_eq]; exact optAll_scal (d := 4) bR_all
theorem l40 (F : Nat → Bool) : ∀ q v : Nat, v + q = 60 →
    lpB Try.prog LL ⟨40, 11, 0, none⟩ n40_6 n40_7 ⟨[(5, .agg (bR F).toArray), (6, iv v)], [], []⟩ =
      if anyF F q v then some (.ret, ⟨[(2, .bool true)], [], []⟩) else some (.exit 0, ⟨[], [], []⟩) := by
  intro q
  induction q with
  | zero =>
    intro v hv
    obtain rfl : v = 60 := by omega
    rw [lpB_eq]
    simp (maxSteps := 1000000) (disch := first | omega | decide | assumption | simp [scal]) [loadA_eq ia_79, o_index ix_79, anyF]
  | succ q ih =>
    intro v hv
    have e1 : (v : Int) < 60 := by omega
    have e2 : v < 60 := by omega
    have this := ih (v + 1) (by omega)
    have g := bR_get (F := F) e2
    simp only [anyF]
    rcases Bool.eq_false_or_eq_true (F v) with hX | hX
    rotate_left
    · rcases Bool.eq_false_or_eq_true (anyF F q (v + 1)) with hY | hY
      rotate_left
      · simp only [hX, hY, Bool.false_or, Bool.or_self, Bool.false_eq_true, if_false, cast1] at this g ⊢
        rw [lpB_eq]
        simp (maxSteps := 1000000) (disch := first | omega | decide | assumption | simp [scal]) [loadA_eq ia_79, o_index ix_79, e1, e2, g, this, bR_ptr, bR_ren]
      · simp only [hX, hY, Bool.false_or, if_true, cast1] at this g ⊢
        rw [lpB_eq]
        simp (maxSteps := 1000000) (disch := first | omega | decide | assumption | simp [scal]) [loadA_eq ia_79, o_index ix_79, e1, e2, g, this, bR_ptr, bR_ren]
    · simp only [hX, Bool.true_or, if_true] at g ⊢
      rw [lpB_eq]
      simp (maxSteps := 1000000) (disch := first | omega | decide | assumption | simp [scal]) [loadA_eq ia_79, o_index ix_79, e1, e2, g, bR_ptr, bR_ren]
theorem c40 (F : Nat → Bool) : LL.run 40 [.agg (bR F).toArray] [] = some ⟨.bool (anyF F 60 0), [], []⟩ := by
  refine go (by decide) ?_
  rw [run40 _ _ _ (by simp)]
  have this := l40 F 60 0 (by omega)
  simp only [Int.natCast_zero] at this
  rcases Bool.eq_false_or_eq_true (anyF F 60 0) with hY | hY
  rotate_left
  · simp only [hY, Bool.false_eq_true, if_false] at this
    simp (maxSteps := 1000000) (disch := first | omega | decide | assumption | simp [scal]) [ld79, rd60_R, bR_arr, bR_len, bR_all, bR_ptr, bR_ren, this, hY]
  · simp only [hY, if_true] at this
    simp (maxSteps := 1000000) (disch := first | omega | decide | assumption | simp [scal]) [ld79, rd60_R, bR_arr, bR_len, bR_all, bR_ptr, bR_ren, this, hY]
theorem k40 (F : Nat → Bool) (h : List Blk) : callH LL 40 [.agg (bR F).toArray] h = some ⟨.bool (anyF F 60 0), h, [], []⟩ := by
  have hp : ([.agg (bR F).toArray] : List Value).flatMap (ptrV dep) = [] := by
    rw [ptrL_eq]
    simp [ptrL, ptrV_agg, dep, bR_ptr]
  have hr : ∀ g, optAll (renV g dep) [.agg (bR F).toArray] = some [.agg (bR F).toArray] := fun g => by
    simp [optAll, renV_agg, dep, bR_ren]
  exact callH_none hp hr (c40 F) fun _ => rfl
end Go.Proofs.Ytiafgimgcbmgaaa.bl
namespace Go.Proofs.Ytiafgimgcbmgaaa.bl
open Go.GE
set_option linter.unusedVariables false
set_option linter.unusedSimpArgs false
set_option maxRecDepth 100000
set_option maxHeartbeats 4000000
section
variable {al : Nat → Nat → Bool} {r f : Int} {w : Nat}
theorem flw_iff {G : Nat → Bool} {dn up : Int} {st : Bool} {v : Nat} : flw G dn up st v = true ↔ ∃ u, u < 60 ∧ G u = true ∧ stepB dn up st u v = true := by
  unfold flw
  rw [anyF_iff]
  constructor
  · rintro ⟨u, _, h1, h2⟩
    rw [Bool.and_eq_true] at h2
    exact ⟨u, by omega, h2.1, h2.2⟩
  · rintro ⟨u, h1, h2, h3⟩
    exact ⟨u, Nat.zero_le _, by omega, by rw [h2, h3]; rfl⟩
theorem step_sym {dn up : Int} {st : Bool} {u v : Nat} : stepB dn up st u v = stepB up dn st v u := by
  unfold stepB
  rw [Bool.eq_iff_iff]
  simp only [Bool.or_eq_true, Bool.and_eq_true, decide_eq_true_eq]
  constructor <;> rintro (h | h) <;> first | exact .inl h | (right; omega)
theorem rowF_iff : ∀ h v, v < 60 → (rowF al r f w h v = true ↔ ∃ p : Nat → Nat, p h = v ∧ (∀ j, j ≤ h → p j < 60 ∧ al j (p j) = true) ∧ ∀ j, j < h → stepB f r (bitB w j) (p j) (p (j + 1)) = true) := by
  intro h
  induction h with
  | zero =>
    intro v hv
    constructor
    · intro h
      refine ⟨fun _ => v, rfl, fun j hj => ?_, fun j hj => by omega⟩
      obtain rfl : j = 0 := by omega
      exact ⟨hv, h⟩
    · rintro ⟨p, rfl, h, _⟩
      exact (h 0 (Nat.le_refl _)).2
  | succ h ih =>
    intro v hv
    unfold rowF
    rw [Bool.and_eq_true, flw_iff]
    constructor
    · rintro ⟨h1, u, hu, h2, h3⟩
      obtain ⟨p, rfl, p1, p2⟩ := (ih u hu).1 h2
      refine ⟨fun j => if j ≤ h then p j else v, by simp only [show ¬ h + 1 ≤ h by omega, if_false], fun j hj => ?_, fun j hj => ?_⟩
      · by_cases e : j ≤ h
        · simp only [e, if_true]; exact p1 j e
        · simp only [e, if_false]
          obtain rfl : j = h + 1 := by omega
          exact ⟨hv, h1⟩
      · by_cases e : j < h
        · simp only [show j ≤ h by omega, show j + 1 ≤ h by omega, if_true]; exact p2 j e
        · obtain rfl : j = h := by omega
          simp only [Nat.le_refl, if_true, show ¬ j + 1 ≤ j by omega, if_false]
          exact h3
    · rintro ⟨p, rfl, p1, p2⟩
      refine ⟨(p1 _ (Nat.le_refl _)).2, p h, (p1 h (by omega)).1, ?_, p2 h (by omega)⟩
      exact (ih _ (p1 h (by omega)).1).2 ⟨p, rfl, fun j hj => p1 j (by omega), fun j hj => p2 j (by omega)⟩
/-- a way through all hours -/
structure Pth (al : Nat → Nat → Bool) (r f : Int) (w : Nat) (p : Nat → Nat) : Prop where
  al : ∀ j, j ≤ 9 → p j < 60 ∧ al j (p j) = true
  st : ∀ j, j < 9 → stepB f r (bitB w j) (p j) (p (j + 1)) = true
theorem rowH_iff : ∀ k v, k ≤ 9 → v < 60 → (rowH al r f w k v = true ↔ ∃ p, Pth al r f w p ∧ p (9 - k) = v) := by
  intro k
  induction k with
  | zero =>
    intro v _ hv
    unfold rowH
    rw [rowF_iff 9 v hv]
    constructor
    · rintro ⟨p, h1, h2, h3⟩
      exact ⟨p, ⟨h2, h3⟩, h1⟩
    · rintro ⟨p, ⟨h2, h3⟩, h1⟩
      exact ⟨p, h1, h2, h3⟩
  | succ k ih =>
    intro v hk hv
    unfold rowH
    rw [Bool.and_eq_true, flw_iff, rowF_iff _ v hv]
    have e9 : 9 - k = (8 - k) + 1 := by omega
    have e8 : 9 - (k + 1) = 8 - k := by omega
    rw [e8]
    constructor
    · rintro ⟨⟨p, p0, p1, p2⟩, u, hu, h2, h3⟩
      obtain ⟨q, ⟨q1, q2⟩, q0⟩ := (ih u (by omega) hu).1 h2
      refine ⟨fun j => if j ≤ 8 - k then p j else q j, ⟨fun j hj => ?_, fun j hj => ?_⟩, by simp [p0]⟩
      · by_cases e : j ≤ 8 - k
        · simp only [e, if_true]; exact p1 j e
        · simp only [e, if_false]; exact q1 j hj
      · by_cases e : j < 8 - k
        · simp only [show j ≤ 8 - k by omega, show j + 1 ≤ 8 - k by omega, if_true]; exact p2 j e
        · by_cases e2 : j = 8 - k
          · subst e2
            simp only [Nat.le_refl, if_true, show ¬ (8 - k + 1 ≤ 8 - k) by omega, if_false]
            rw [← e9, q0, p0, step_sym]
            exact h3
          · simp only [show ¬ j ≤ 8 - k by omega, show ¬ j + 1 ≤ 8 - k by omega, if_false]; exact q2 j hj
    · rintro ⟨p, ⟨p1, p2⟩, p0⟩
      refine ⟨⟨p, p0, fun j hj => p1 j (by omega), fun j hj => p2 j (by omega)⟩, p (9 - k), (p1 _ (by omega)).1, (ih _ (by omega) (p1 _ (by omega)).1).2 ⟨p, ⟨p1, p2⟩, rfl⟩, ?_⟩
      rw [step_sym, ← p0, e9]
      exact p2 _ (by omega)
theorem tab_iff {h v : Nat} (hh : h ≤ 9) (hv : v < 60) : tabS al r f w h v = true ↔ ∃ p, Pth al r f w p ∧ p h = v := by
  unfold tabS
  rw [rowH_iff _ _ (by omega) hv, show 9 - (9 - h) = h by omega]
/-- some value at the first hour -/
theorem some_iff : anyF (tabS al r f w 0) 60 0 = true ↔ ∃ p, Pth al r f w p := by
  rw [anyF_iff]
  constructor
  · rintro ⟨v, _, hv, h⟩
    obtain ⟨p, hp, _⟩ := (tab_iff (by omega) (by omega)).1 h
    exact ⟨p, hp⟩
  · rintro ⟨p, hp⟩
    exact ⟨p 0, Nat.zero_le _, by have := (hp.al 0 (by omega)).1; omega, (tab_iff (by omega) (hp.al 0 (by omega)).1).2 ⟨p, hp, rfl⟩⟩
end
theorem bit_mem {w j : Nat} (hj : j < 9) : bitB w j = true ↔ (j : Int) ∈ setL w 9 := by
  unfold bitB
  rw [decide_eq_true_eq, set_mem]
  constructor
  · intro h; exact ⟨j, hj, h, rfl⟩
  · rintro ⟨h, _, h2, h3⟩
    obtain rfl : j = h := by omega
    exact h2
abbrev prt (w : Nat) (x : Int) : Nat := partS (setL w 9).length (inAt (setL w 9)) x
theorem same_iff {w x y : Nat} (hxy : x ≤ y) (hy : y ≤ 9) : prt w x = prt w y ↔ ∀ j, x ≤ j → j < y → bitB w j = false := by
  rw [part_eq set_asc (by omega)]
  constructor
  · intro h j h1 h2
    rw [← Bool.not_eq_true]
    intro hb
    obtain ⟨i, hi, e⟩ := mem_in ((bit_mem (by omega)).1 hb)
    have := h i hi (by omega)
    omega
  · intro h i hi h1
    obtain ⟨j, hj, h2, h3⟩ := set_mem.1 (in_mem hi)
    apply Classical.byContradiction
    intro hn
    have := h j (by omega) (by omega)
    unfold bitB at this
    rw [decide_eq_false_iff_not] at this
    exact this h2
theorem same_next {w x : Nat} (hx : x < 9) (hb : bitB w x = false) : prt w (x : Int) = prt w ((x : Int) + 1) := by
  have := (same_iff (w := w) (x := x) (y := x + 1) (by omega) (by omega)).2 fun j h1 h2 => by
    obtain rfl : j = x := by omega
    exact hb
  rw [this, cast1]
/-- along a part values change within bounds -/
theorem pth_bd {al : Nat → Nat → Bool} {r f : Int} {w : Nat} {p : Nat → Nat} (hp : Pth al r f w p) {x : Nat} : ∀ k, x + k ≤ 9 → (∀ j, x ≤ j → j < x + k → bitB w j = false) → (p (x + k) : Int) ≤ p x + k * r ∧ (p x : Int) - k * f ≤ p (x + k) := by
  intro k
  induction k with
  | zero => intro _ _; simp
  | succ k ih =>
    intro hk hb
    have h1 := ih (by omega) fun j a b => hb j a (by omega)
    have h2 := hp.st (x + k) (by omega)
    rw [hb (x + k) (by omega) (by omega)] at h2
    unfold stepB at h2
    simp only [Bool.false_or, Bool.and_eq_true, decide_eq_true_eq] at h2
    rw [Nat.add_assoc] at h2
    have e1 : ((k + 1 : Nat) : Int) * r = k * r + r := by rw [cast1, Int.add_mul, Int.one_mul]
    have e2 : ((k + 1 : Nat) : Int) * f = k * f + f := by rw [cast1, Int.add_mul, Int.one_mul]
    rw [e1, e2]
    omega
end Go.Proofs.Ytiafgimgcbmgaaa.bl
namespace Go.Proofs.Ytiafgimgcbmgaaa.bl
open Go.GE
set_option linter.unusedVariables false
set_option linter.unusedSimpArgs false
set_option maxRecDepth 100000
set_option maxHeartbeats 4000000
section
variable (w : Nat) (r f : Int)
def capV : List Ab → Int → Int
  | [], _ => 39
  | a :: L, x => if prt w a.h = prt w x then min (arHi r f a x) (capV L x) else capV L x
variable {w r f}
theorem cap_le {L : List Ab} {x : Int} : capV w r f L x ≤ 39 ∧ ∀ a ∈ L, prt w a.h = prt w x → capV w r f L x ≤ arHi r f a x := by
  induction L with
  | nil => exact ⟨Int.le_refl _, by simp⟩
  | cons b L ih =>
    unfold capV
    split
    · refine ⟨by omega, fun a ha h => ?_⟩
      rcases List.mem_cons.1 ha with rfl | ha
      · omega
      · have := ih.2 a ha h; omega
    · rename_i hb
      refine ⟨ih.1, fun a ha h => ?_⟩
      rcases List.mem_cons.1 ha with rfl | ha
      · exact absurd h hb
      · exact ih.2 a ha h
theorem cap_eq {L : List Ab} {x : Int} : capV w r f L x = 39 ∨ ∃ a ∈ L, prt w a.h = prt w x ∧ capV w r f L x = arHi r f a x := by
  induction L with
  | nil => exact .inl rfl
  | cons b L ih =>
    unfold capV
    split
    · rename_i hb
      by_cases h : arHi r f b x ≤ capV w r f L x
      · exact .inr ⟨b, List.mem_cons_self, hb, by omega⟩
      · rcases ih with ih | ⟨a, ha, h1, h2⟩
        · exact .inl (by omega)
        · exact .inr ⟨a, List.mem_cons_of_mem _ ha, h1, by omega⟩
    · rcases ih with ih | ⟨a, ha, h1, h2⟩
      · exact .inl ih
      · exact .inr ⟨a, List.mem_cons_of_mem _ ha, h1, h2⟩
theorem arHi_step {a : Ab} {x : Int} (hr : 0 ≤ r) (hf : 0 ≤ f) : arHi r f a (x + 1) ≤ arHi r f a x + r ∧ arHi r f a x - f ≤ arHi r f a (x + 1) := by
  unfold arHi
  by_cases h1 : 0 ≤ x - a.h
  · rw [if_pos h1, if_pos (by omega), show x + 1 - a.h = (x - a.h) + 1 by omega, Int.add_mul, Int.one_mul]
    omega
  · rw [if_neg h1]
    by_cases h2 : 0 ≤ x + 1 - a.h
    · rw [if_pos h2, show x + 1 - a.h = 0 by omega, show a.h - x = 1 by omega]
      omega
    · rw [if_neg h2, show a.h - x = (a.h - (x + 1)) + 1 by omega, Int.add_mul, Int.one_mul]
      omega
theorem arHi_self {a : Ab} : arHi r f a a.h = a.hi := by unfold arHi; rw [if_pos (by omega), Int.sub_self]; simp
theorem arLo_self {a : Ab} : arLo r f a a.h = a.lo := by unfold arLo; rw [if_pos (by omega), Int.sub_self]; simp
/-- if no two of a part need a step, there is a way -/
theorem way {L : List Ab} (hr : 0 ≤ r) (hf : 0 ≤ f) (hb : ∀ a ∈ L, 0 ≤ a.h ∧ a.h ≤ 9 ∧ -20 ≤ a.hi ∧ a.lo ≤ 39) (hn : ∀ a ∈ L, ∀ b ∈ L, prt w b.h = prt w a.h → a.lo ≤ arHi r f b a.h) :
    ∃ p : Nat → Nat, (∀ j, p j < 60) ∧ (∀ j, j < 9 → stepB f r (bitB w j) (p j) (p (j + 1)) = true) ∧ ∀ a ∈ L, a.lo ≤ (p a.h.toNat : Int) - 20 ∧ (p a.h.toNat : Int) - 20 ≤ a.hi := by
  refine ⟨fun j => (max (capV w r f L (j : Int) + 20) 0).toNat, fun j => ?_, fun j hj => ?_, fun a ha => ?_⟩
  · have := (cap_le (w := w) (r := r) (f := f) (L := L) (x := (j : Int))).1
    show (max (capV w r f L (j : Int) + 20) 0).toNat < 60
    omega
  · unfold stepB
    simp only [Bool.or_eq_true, Bool.and_eq_true, decide_eq_true_eq]
    cases hbit : bitB w j
    · right
      have hs := same_next hj hbit
      obtain ⟨c1, c2⟩ := cap_le (w := w) (r := r) (f := f) (L := L) (x := (j : Int))
      obtain ⟨d1, d2⟩ := cap_le (w := w) (r := r) (f := f) (L := L) (x := (j : Int) + 1)
      have u1 : capV w r f L ((j : Int) + 1) ≤ capV w r f L j + r := by
        rcases cap_eq (w := w) (r := r) (f := f) (L := L) (x := (j : Int)) with h | ⟨a, ha, h1, h2⟩
        · omega
        · have := d2 a ha (by rw [h1, hs])
          have := (arHi_step (a := a) (x := (j : Int)) hr hf).1
          omega
      have u2 : capV w r f L j - f ≤ capV w r f L ((j : Int) + 1) := by
        rcases cap_eq (w := w) (r := r) (f := f) (L := L) (x := (j : Int) + 1) with h | ⟨a, ha, h1, h2⟩
        · omega
        · have := c2 a ha (by rw [h1, hs])
          have := (arHi_step (a := a) (x := (j : Int)) hr hf).2
          omega
      rw [cast1]
      omega
    · exact .inl rfl
  · obtain ⟨b1, b2, b3, b4⟩ := hb a ha
    have e : ((a.h.toNat : Nat) : Int) = a.h := by omega
    simp only [e]
    have h1 := (cap_le (w := w) (r := r) (f := f) (L := L) (x := a.h)).2 a ha rfl
    rw [arHi_self] at h1
    have h2 : a.lo ≤ capV w r f L a.h := by
      rcases cap_eq (w := w) (r := r) (f := f) (L := L) (x := a.h) with h | ⟨b, hb', g1, g2⟩
      · omega
      · rw [g2]; exact hn a ha b hb' g1
    omega
end
section
variable {r f : Int} {A : List Ab} {w : Nat} (S : Sht r f A.length (abAt A)) (hb : ∀ a ∈ A, 0 ≤ a.h ∧ a.h ≤ 9 ∧ -20 ≤ a.hi ∧ a.lo ≤ 39)
abbrev clW (r f : Int) (A : List Ab) (w : Nat) : Bool := clashS r f A.length (abAt A) (setL w 9).length (inAt (setL w 9)) (-1)
theorem at_mem {a : Ab} (h : a ∈ A) : ∃ i, i < A.length ∧ abAt A i = a := by
  obtain ⟨i, hi, rfl⟩ := List.getElem_of_mem h
  exact ⟨i, hi, abAt_get hi⟩
theorem mem_at {i : Nat} (h : i < A.length) : abAt A i ∈ A := by rw [abAt_get h]; exact List.getElem_mem h
include S in
theorem clash_none : clW r f A w = false ↔ ∀ a ∈ A, ∀ b ∈ A, prt w b.h = prt w a.h → a.lo ≤ arHi r f b a.h := by
  rw [← Bool.not_eq_true, clash_iff]
  constructor
  · intro hn a ha b hb hp
    obtain ⟨i, hi, rfl⟩ := at_mem ha
    obtain ⟨k, hk, rfl⟩ := at_mem hb
    rcases Nat.lt_trichotomy i k with h | h | h
    · have hlt := S.asc i k h hk
      apply Classical.byContradiction
      intro hc
      refine hn ⟨i, k, h, hk, by omega, by omega, hp.symm, (need_iff (by omega)).2 (.inl ?_)⟩
      unfold arHi at hc
      rw [if_neg (by omega)] at hc
      omega
    · subst h
      rw [arHi_self]
      exact (S.ok i hi).l1
    · have hlt := S.asc k i h hi
      apply Classical.byContradiction
      intro hc
      refine hn ⟨k, i, h, hi, by omega, by omega, hp, (need_iff (by omega)).2 (.inr ?_)⟩
      unfold arHi at hc
      rw [if_pos (by omega)] at hc
      omega
  · rintro hn ⟨i, k, h, hk, _, _, hp, hne⟩
    have hlt := S.asc i k h hk
    rcases (need_iff (by omega)).1 hne with h1 | h1
    · have := hn _ (mem_at (show i < A.length by omega)) _ (mem_at hk) hp.symm
      unfold arHi at this
      rw [if_neg (by omega)] at this
      omega
    · have := hn _ (mem_at hk) _ (mem_at (show i < A.length by omega)) hp
      unfold arHi at this
      rw [if_pos (by omega)] at this
      omega
theorem alw_iff {h v : Nat} : alw A.length (abAt A) h v = true ↔ ∀ a ∈ A, a.h = h → a.lo ≤ (v : Int) - 20 ∧ (v : Int) - 20 ≤ a.hi := by
  unfold alw
  rw [Bool.not_eq_true', ← Bool.not_eq_true, anyF_iff]
  constructor
  · intro hn a ha he
    obtain ⟨i, hi, rfl⟩ := at_mem ha
    apply Classical.byContradiction
    intro hc
    refine hn ⟨i, Nat.zero_le _, by omega, ?_⟩
    unfold forb
    simp only [Bool.and_eq_true, Bool.or_eq_true, decide_eq_true_eq]
    omega
  · rintro hn ⟨i, _, hi, hf⟩
    have := hn _ (mem_at (show i < A.length by omega))
    unfold forb at hf
    simp only [Bool.and_eq_true, Bool.or_eq_true, decide_eq_true_eq] at hf
    have := this hf.1
    omega
/-- a way lies within what each absolute of a part allows -/
theorem pth_in {p : Nat → Nat} (hp : Pth (alw A.length (abAt A)) r f w p) {a : Ab} (ha : a ∈ A) (h0 : 0 ≤ a.h) (h9 : a.h ≤ 9) {x : Nat} (hx : x ≤ 9) (hs : prt w a.h = prt w (x : Int)) :
    arLo r f a x ≤ (p x : Int) - 20 ∧ (p x : Int) - 20 ≤ arHi r f a x := by
  obtain ⟨y, hy⟩ : ∃ y : Nat, a.h = y := ⟨a.h.toNat, by omega⟩
  have h1 := alw_iff.1 (hp.al y (by omega)).2 a ha hy
  rw [hy] at hs
  unfold arLo arHi
  rw [hy]
  by_cases hxy : y ≤ x
  · rw [if_pos (by omega), if_pos (by omega)]
    have hb := pth_bd hp (x := y) (x - y) (by omega) fun j a b => (same_iff hxy hx).1 hs j a (by omega)
    rw [show y + (x - y) = x by omega, show ((x - y : Nat) : Int) = (x : Int) - y by omega] at hb
    omega
  · rw [if_neg (by omega), if_neg (by omega)]
    have hb := pth_bd hp (x := x) (y - x) (by omega) fun j a b => (same_iff (w := w) (x := x) (y := y) (by omega) (by omega)).1 hs.symm j a (by omega)
    rw [show x + (y - x) = y by omega, show ((y - x : Nat) : Int) = (y : Int) - x by omega] at hb
    omega
include S hb in
theorem way_iff : (∃ p, Pth (alw A.length (abAt A)) r f w p) ↔ clW r f A w = false := by
  rw [clash_none S]
  constructor
  · rintro ⟨p, hp⟩ a ha b hb' hs
    obtain ⟨a1, a2, _⟩ := hb a ha
    obtain ⟨b1, b2, _⟩ := hb b hb'
    obtain ⟨y, hy⟩ : ∃ y : Nat, a.h = y := ⟨a.h.toNat, by omega⟩
    have h1 := alw_iff.1 (hp.al y (by omega)).2 a ha hy
    rw [hy] at hs ⊢
    have h2 := pth_in hp hb' b1 b2 (x := y) (by omega) hs
    omega
  · intro hn
    obtain ⟨p, p1, p2, p3⟩ := way (w := w) S.dr.r0 S.dr.f0 hb hn
    refine ⟨p, ⟨fun j hj => ⟨p1 j, alw_iff.2 fun a ha he => ?_⟩, p2⟩⟩
    have := p3 a ha
    rw [he, Int.toNat_natCast] at this
    exact this
include S hb in
theorem tab_val {h u : Nat} (hh : h ≤ 9) (hu : u < 60) : tabS (alw A.length (abAt A)) r f w h u = true ↔
    clW r f A w = false ∧ ∀ a ∈ A, prt w a.h = prt w (h : Int) → arLo r f a h ≤ (u : Int) - 20 ∧ (u : Int) - 20 ≤ arHi r f a h := by
  rw [tab_iff hh hu]
  constructor
  · rintro ⟨p, hp, rfl⟩
    refine ⟨(way_iff S hb).1 ⟨p, hp⟩, fun a ha hs => ?_⟩
    obtain ⟨a1, a2, _⟩ := hb a ha
    exact pth_in hp ha a1 a2 hh hs
  · rintro ⟨hc, hv⟩
    have hn := (clash_none S).1 hc
    obtain ⟨p, p1, p2, p3⟩ := way (w := w) (L := ⟨h, (u : Int) - 20, (u : Int) - 20⟩ :: A) S.dr.r0 S.dr.f0 (fun a ha => by
        rcases List.mem_cons.1 ha with rfl | ha
        · simp only []; omega
        · exact hb a ha) (fun a ha b hb' hs => by
        rcases List.mem_cons.1 ha with rfl | ha
        · rcases List.mem_cons.1 hb' with rfl | hb'
          · rw [show ((⟨h, (u : Int) - 20, (u : Int) - 20⟩ : Ab).h) = (⟨h, (u : Int) - 20, (u : Int) - 20⟩ : Ab).h from rfl, arHi_self]; exact Int.le_refl _
          · exact (hv b hb' hs).2
        · rcases List.mem_cons.1 hb' with rfl | hb'
          · have := (hv a ha hs.symm).1
            unfold arLo at this
            unfold arHi
            simp only [] at this ⊢
            by_cases e : 0 ≤ (h : Int) - a.h
            · rw [if_pos e] at this
              by_cases e2 : 0 ≤ a.h - (h : Int)
              · rw [if_pos e2, show a.h - (h : Int) = 0 by omega]
                rw [show (h : Int) - a.h = 0 by omega] at this
                omega
              · rw [if_neg e2]; omega
            · rw [if_neg e] at this
              rw [if_pos (by omega)]
              omega
          · exact hn a ha b hb' hs)
    have h0 := p3 _ List.mem_cons_self
    simp only [Int.toNat_natCast] at h0
    refine ⟨p, ⟨fun j hj => ⟨p1 j, alw_iff.2 fun a ha he => ?_⟩, p2⟩, by omega⟩
    have := p3 a (List.mem_cons_of_mem _ ha)
    rw [he, Int.toNat_natCast] at this
    exact this
end
end Go.Proofs.Ytiafgimgcbmgaaa.bl
namespace Go.Proofs.Ytiafgimgcbmgaaa.bl
open Go.GE
set_option linter.unusedVariables false
set_option linter.unusedSimpArgs false
set_option maxRecDepth 100000
set_option maxHeartbeats 4000000
theorem row0 {F : Nat → Nat → Bool} : (bT F).toArray.extract 0 60 = (bR (F 0)).toArray := bT_row (h := 0) (by omega)
theorem row0' {F : Nat → Nat → Bool} : List.take 60 (bT F) = bR (F 0) := by
  have := congrArg Array.toList (row0 (F := F))
  simpa using this
end Go.Proofs.Ytiafgimgcbmgaaa.bl
namespace Go.Proofs.Ytiafgimgcbmgaaa.bl
open Go.GE
set_option linter.unusedVariables false
set_option linter.unusedSimpArgs false
set_option maxRecDepth 100000
set_option maxHeartbeats 4000000
theorem bneq4 {c : Bool} {a b : Bool} : binA Try.prog .neq 4 c (.bool a) (.bool b) = some (.bool !(a == b)) := by
  simp [binA, show Try.prog.underlying 4 = some .bool from by kernel_rfl]
end Go.Proofs.Ytiafgimgcbmgaaa.bl
namespace Go.Proofs.Ytiafgimgcbmgaaa.bl
open Go.GE
set_option linter.unusedVariables false
set_option linter.unusedSimpArgs false
set_option maxRecDepth 100000
set_option maxHeartbeats 4000000
theorem arHi_steps {r f : Int} {a : Ab} {x : Int} (hr : 0 ≤ r) (hf : 0 ≤ f) : ∀ k : Nat, arHi r f a (x + k) ≤ arHi r f a x + k * r ∧ arHi r f a x - k * f ≤ arHi r f a (x + k) := by
  intro k
  induction k with
  | zero => simp
  | succ k ih =>
    have := arHi_step (r := r) (f := f) (a := a) (x := x + k) hr hf
    rw [cast1, ← Int.add_assoc, Int.add_mul, Int.add_mul, Int.one_mul, Int.one_mul]
    omega
section
variable {r f : Int} {A : List Ab} {w : Nat} (S : Sht r f A.length (abAt A)) (hb : ∀ a ∈ A, 0 ≤ a.h ∧ a.h ≤ 9 ∧ -20 ≤ a.hi ∧ a.lo ≤ 39) (hc : clW r f A w = false)
abbrev vW (r f : Int) (A : List Ab) (w : Nat) (x : Int) : Lim := valS r f A.length (abAt A) (setL w 9).length (inAt (setL w 9)) x
/-- the bounds at an hour: those of some absolutes of the part, within those of all -/
theorem vW_spec {x : Int} : ((vW r f A w x).2.2 = true ↔ ∃ j, j < A.length ∧ prt w (abAt A j).h = prt w x) ∧
    (∀ j, j < A.length → prt w (abAt A j).h = prt w x → arLo r f (abAt A j) x ≤ (vW r f A w x).1 ∧ (vW r f A w x).2.1 ≤ arHi r f (abAt A j) x) ∧
    ((vW r f A w x).2.2 = true → (∃ j, j < A.length ∧ prt w (abAt A j).h = prt w x ∧ (vW r f A w x).1 = arLo r f (abAt A j) x) ∧ ∃ j, j < A.length ∧ prt w (abAt A j).h = prt w x ∧ (vW r f A w x).2.1 = arHi r f (abAt A j) x) := by
  obtain ⟨h1, h2, h3, h4, h5⟩ := valL_spec (r := r) (f := f) (l := abAt A) (m := (setL w 9).length) (st := inAt (setL w 9)) (x := x) (pt := partS (setL w 9).length (inAt (setL w 9)) x) A.length 0 (0, 0, false)
  refine ⟨?_, fun j hj hp => h3 j (Nat.zero_le _) (by omega) hp, fun hk => ⟨?_, ?_⟩⟩
  · rw [show (vW r f A w x).2.2 = (valL r f (abAt A) (setL w 9).length (inAt (setL w 9)) x (partS (setL w 9).length (inAt (setL w 9)) x) A.length 0 (0, 0, false)).2.2 from rfl, h1]
    constructor
    · rintro (h | ⟨j, _, hj, hp⟩)
      · simp at h
      · exact ⟨j, by omega, hp⟩
    · rintro ⟨j, hj, hp⟩
      exact .inr ⟨j, Nat.zero_le _, by omega, hp⟩
  · rcases h4 with ⟨h, _⟩ | ⟨j, _, hj, hp, e⟩ | h
    · simp at h
    · exact ⟨j, by omega, hp, e⟩
    · exact absurd (hk.symm.trans h) (by simp)
  · rcases h5 with ⟨h, _⟩ | ⟨j, _, hj, hp, e⟩ | h
    · simp at h
    · exact ⟨j, by omega, hp, e⟩
    · exact absurd (hk.symm.trans h) (by simp)
include S hb hc in
theorem lo_hi {x : Nat} (hx : x ≤ 9) {i j : Nat} (hi : i < A.length) (hj : j < A.length) (h1 : prt w (abAt A i).h = prt w (x : Int)) (h2 : prt w (abAt A j).h = prt w (x : Int)) : arLo r f (abAt A i) x ≤ arHi r f (abAt A j) x := by
  obtain ⟨p, hp⟩ := (way_iff S hb).2 hc
  obtain ⟨a1, a2, _⟩ := hb _ (mem_at hi)
  obtain ⟨b1, b2, _⟩ := hb _ (mem_at hj)
  have g1 := pth_in hp (mem_at hi) a1 a2 hx h1
  have g2 := pth_in hp (mem_at hj) b1 b2 hx h2
  omega
include S hb hc in
theorem tab_at {x u : Nat} (hx : x ≤ 9) (hu : u < 60) (hk : (vW r f A w x).2.2 = true) : tabS (alw A.length (abAt A)) r f w x u = (decide ((vW r f A w x).1 ≤ (u : Int) - 20) && decide ((u : Int) - 20 ≤ (vW r f A w x).2.1)) := by
  obtain ⟨s1, s2, s3⟩ := vW_spec (r := r) (f := f) (A := A) (w := w) (x := (x : Int))
  obtain ⟨⟨j, hj, pj, ej⟩, ⟨k, hk', pk, ek⟩⟩ := s3 hk
  rw [Bool.eq_iff_iff, tab_val S hb hx hu, Bool.and_eq_true, decide_eq_true_eq, decide_eq_true_eq]
  constructor
  · rintro ⟨_, h⟩
    have g1 := (h _ (mem_at hj) pj).1
    have g2 := (h _ (mem_at hk') pk).2
    omega
  · rintro ⟨g1, g2⟩
    refine ⟨hc, fun a ha hp => ?_⟩
    obtain ⟨i, hi, rfl⟩ := at_mem ha
    have := s2 i hi hp
    omega
include S hb hc in
/-- the highest value at an absolute -/
theorem hig_at {i y : Nat} (hi : i < A.length) (hy : (abAt A i).h = y) (hv : 0 ≤ (abAt A i).lo ∧ (abAt A i).hi < 19) : ∃ v : Nat, (vW r f A w y).2.1 = v ∧ (abAt A i).lo ≤ v ∧ (v : Int) ≤ (abAt A i).hi ∧
    tabS (alw A.length (abAt A)) r f w y (v + 20) = true ∧ ((v : Int) < (abAt A i).hi → tabS (alw A.length (abAt A)) r f w y (v + 21) = false) := by
  obtain ⟨s1, s2, s3⟩ := vW_spec (r := r) (f := f) (A := A) (w := w) (x := (y : Int))
  have hk : (vW r f A w y).2.2 = true := s1.2 ⟨i, hi, by rw [hy]⟩
  obtain ⟨⟨j, hj, pj, ej⟩, ⟨k, hk', pk, ek⟩⟩ := s3 hk
  have o := hb _ (mem_at hi)
  have y9 : y ≤ 9 := by omega
  have own := s2 i hi (by rw [hy])
  have e1 : arLo r f (abAt A i) y = (abAt A i).lo := by rw [← hy]; exact arLo_self
  have e2 : arHi r f (abAt A i) y = (abAt A i).hi := by rw [← hy]; exact arHi_self
  have g := lo_hi S hb hc y9 hi hk' (by rw [hy]) pk
  have g' := lo_hi S hb hc y9 hj hk' pj pk
  rw [e1, e2] at own
  rw [e1, ← ek] at g
  rw [← ej, ← ek] at g'
  refine ⟨(vW r f A w y).2.1.toNat, by omega, by omega, by omega, ?_, fun h => ?_⟩
  · rw [tab_at S hb hc y9 (by omega) hk, Bool.and_eq_true, decide_eq_true_eq, decide_eq_true_eq]
    omega
  · rw [tab_at S hb hc y9 (by omega) hk, Bool.and_eq_false_iff, decide_eq_false_iff_not, decide_eq_false_iff_not]
    omega
include S hb in
/-- the highest values are attained together -/
theorem hig_two {i : Nat} (hi : i + 1 < A.length) (hp : prt w (abAt A i).h = prt w (abAt A (i + 1)).h) :
    (vW r f A w (abAt A (i + 1)).h).2.1 - (vW r f A w (abAt A i).h).2.1 ≤ ((abAt A (i + 1)).h - (abAt A i).h) * r ∧ (vW r f A w (abAt A i).h).2.1 - (vW r f A w (abAt A (i + 1)).h).2.1 ≤ ((abAt A (i + 1)).h - (abAt A i).h) * f := by
  have o1 := hb _ (mem_at (show i < A.length by omega))
  have o2 := hb _ (mem_at hi)
  have hlt := S.asc i (i + 1) (by omega) hi
  obtain ⟨s1, s2, s3⟩ := vW_spec (r := r) (f := f) (A := A) (w := w) (x := (abAt A i).h)
  obtain ⟨t1, t2, t3⟩ := vW_spec (r := r) (f := f) (A := A) (w := w) (x := (abAt A (i + 1)).h)
  obtain ⟨_, ⟨k, hk, pk, ek⟩⟩ := s3 (s1.2 ⟨i, by omega, rfl⟩)
  obtain ⟨_, ⟨k', hk', pk', ek'⟩⟩ := t3 (t1.2 ⟨i + 1, hi, rfl⟩)
  have g1 := (t2 k hk (by rw [pk, hp])).2
  have g2 := (s2 k' hk' (by rw [pk', hp])).2
  obtain ⟨d, hd⟩ : ∃ d : Nat, (abAt A (i + 1)).h - (abAt A i).h = d := ⟨((abAt A (i + 1)).h - (abAt A i).h).toNat, by omega⟩
  have e : (abAt A (i + 1)).h = (abAt A i).h + d := by omega
  have q1 := arHi_steps (r := r) (f := f) (a := abAt A k) (x := (abAt A i).h) S.dr.r0 S.dr.f0 d
  have q2 := arHi_steps (r := r) (f := f) (a := abAt A k') (x := (abAt A i).h) S.dr.r0 S.dr.f0 d
  rw [← e] at q1 q2
  rw [hd]
  omega
end
theorem part_ne {w : Nat} {x y : Int} : anyF (fun j => decide (inAt (setL w 9) j < x) != decide (inAt (setL w 9) j < y)) (setL w 9).length 0 = !decide (prt w x = prt w y) := by
  have key : ∀ {x y : Int}, x ≤ y → (anyF (fun j => decide (inAt (setL w 9) j < x) != decide (inAt (setL w 9) j < y)) (setL w 9).length 0 = !decide (prt w x = prt w y)) := by
    intro x y h
    rw [Bool.eq_iff_iff, anyF_iff, Bool.not_eq_true', decide_eq_false_iff_not, part_eq set_asc h]
    constructor
    · rintro ⟨j, _, hj, hd⟩ hall
      have := hall j (by omega)
      by_cases h1 : inAt (setL w 9) j < y
      · have h2 := this h1
        simp [h1, h2] at hd
      · have h2 : ¬ inAt (setL w 9) j < x := by omega
        simp [h1, h2] at hd
    · intro hn
      apply Classical.byContradiction
      intro hc
      refine hn fun j hj h1 => ?_
      apply Classical.byContradiction
      intro h2
      exact hc ⟨j, Nat.zero_le _, by omega, by simp [h1, h2]⟩
  by_cases h : x ≤ y
  · exact key h
  · have := key (x := y) (y := x) (by omega)
    have e : (fun j => decide (inAt (setL w 9) j < x) != decide (inAt (setL w 9) j < y)) = fun j => decide (inAt (setL w 9) j < y) != decide (inAt (setL w 9) j < x) := by
      funext j; cases decide (inAt (setL w 9) j < x) <;> cases decide (inAt (setL w 9) j < y) <;> rfl
    rw [e, this]
    congr 1
    rw [Bool.eq_iff_iff, decide_eq_true_eq, decide_eq_true_eq]
    exact eq_comm
theorem part_free {w : Nat} {x y : Int} (h : x ≤ y) : anyF (fun j => decide (x ≤ inAt (setL w 9) j) && decide (inAt (setL w 9) j < y)) (setL w 9).length 0 = !decide (prt w x = prt w y) := by
  rw [Bool.eq_iff_iff, anyF_iff, Bool.not_eq_true', decide_eq_false_iff_not, part_eq set_asc h]
  constructor
  · rintro ⟨j, _, hj, hd⟩ hall
    simp only [Bool.and_eq_true, decide_eq_true_eq] at hd
    have := hall j (by omega) hd.2
    omega
  · intro hn
    apply Classical.byContradiction
    intro hc
    refine hn fun j hj h1 => ?_
    apply Classical.byContradiction
    intro h2
    exact hc ⟨j, Nat.zero_le _, by omega, by simp only [Bool.and_eq_true, decide_eq_true_eq]; omega⟩
end Go.Proofs.Ytiafgimgcbmgaaa.bl
