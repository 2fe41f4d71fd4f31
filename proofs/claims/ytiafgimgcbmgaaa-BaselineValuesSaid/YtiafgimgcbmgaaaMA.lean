/-
  Contracts of functions of the program at the limit evaluator. No condition.
-/
import Derived.Test.YtiafgimgcbmgaaaN1
import Derived.Test.YtiafgimgcbmgaaaE38

namespace Go.Proofs.Ytiafgimgcbmgaaa.bl
open Go.GE
set_option linter.unusedVariables false
set_option linter.unusedSimpArgs false
set_option maxRecDepth 100000
set_option maxHeartbeats 4000000
attribute [local simp] runOps_nil runOps_cons runOpsF_nil runOpsF_cons fstS_some fstF_some opStep_eq want_none oStep_true oStep_false fin_pure fin_read fin_alloc fin_write storeB wrN cellV addWr o_move o_assign o_pick o_alloc o_box o_load o_store o_nilCheck o_bin o_un o_extract o_callV o_callB o_callI callV_f callV_y callV_fc o_makeFunc partsA Instr.fill builtin_len builtin_max2 bin_add bin_sub bin_mul bin_quo bin_rem bin_lss bin_leq bin_gtr bin_geq bin_eql bin_neq un_neg un_not bin_shr bin_shl wrap_u64_id opd opds optAll putO nbeq nblt constOk isC ops sub cl cr co bodyOf thenS_normal thenS_ret thenS_exit thenS_goto afterN_normal afterN_ret afterN_exit afterN_goto condS_true condS_false blockS_normal blockS_ret blockS_exit blockS_goto headS normS normK_eq fixS_nil fixS_cons fix1 fixV emptyB keepO_nil keepO_cons roundC_normal roundC_exit roundC_ret roundC_goto sweep_eq sweepD rnm pickR pickW rootsB ptrT renT ptrFn renFn ptrB_flat ptrB_non renB_flat renB_non plainS_some drawS_some fpsOk disj unord range' dropTo enumT undef wrap_i64_id Value.cells mkCells ptrTo scal cellsAt rdN endS_ret resultsA Option.bind_some tupV finish reachN dep ptrL_eq ptrL renL_eq renL ptrV_bool ptrV_int ptrV_string ptrV_nilFunc ptrV_nilIface ptrV_nilPtr ptrV_ptr ptrV_nilSl ptrV_sl ptrV_iface ptrV_agg ptrV_tuple ptrV_func renV_bool renV_int renV_string renV_nilFunc renV_nilIface renV_nilPtr renV_ptr renV_nilSl renV_sl renV_iface renV_agg renV_tuple renV_func gotoS_goto gotoS_normal gotoS_exit gotoS_ret skip_seq sliceE bnd bndHi intOf optOpd keepT_nil keepT_cons keepC_t keepC_f lk_nil lk_cons lkC_t lkC_f has_nil has_cons hasC_t hasC_f rep_nil rep_cons repC_t repC_f put_eq putC_t putC_f mem_nil mem_cons memC_t memC_f idx_nil idx_cons idxC_t idxC_f reach_nil reach_cons reachC_t reachC_f
attribute [local simp] n56_1s n56_3s n56_4s n56_2s n56_0s Try.f56 n54_1s n54_3s n54_4s n54_2s n54_0s Try.f54 n57_1s n57_3s n57_4s n57_2s n57_0s Try.f57
theorem other {f : FuncId} (hf : (15 : Nat) ≠ f) (a : List Value) (h : List Blk) : (wk.wtab.keep kpT).run f a h = none := by
  show GE.tabR [wk.ew] f a h = none
  have : Nat.beq wk.ew.f f = false := GE.beq_false.2 hf
  simp only [tabR, this, Bool.false_and, cond_false]
theorem go {f : FuncId} {args : List Value} {h : List Blk} {r : RR} (hf : (15 : Nat) ≠ f) (he : runB Try.prog LL f args h = some r) : LL.run f args h = some r := L_run (other hf _ _) he
/-- an absolute -/
structure Ab where
  h : Int
  lo : Int
  hi : Int
abbrev abV (a : Ab) : Value := .agg #[iv a.h, iv a.lo, iv a.hi]
abbrev shV (r f : Int) (b off n c : Nat) : Value := .agg #[iv r, iv f, .slice (some ⟨b, off, none⟩) n c]
abbrev shN (r f : Int) : Value := .agg #[iv r, iv f, .slice none 0 0]
/-- cells of absolutes -/
def AbC (cs : List Value) (off n : Nat) (l : Nat → Ab) : Prop := ∀ i, i < n → cs[off + i * 3]? = some (iv (l i).h) ∧ cs[off + i * 3 + 1]? = some (iv (l i).lo) ∧ cs[off + i * 3 + 2]? = some (iv (l i).hi)
theorem k56 (a b c : Int) (h : List Blk) : callH LL 56 [iv a, iv b, iv c] h = some ⟨.bool (decide (a ≤ b) && decide (b ≤ c)), h, [], []⟩ := by
  refine callH_plain (go (by decide) ?_) rfl rfl
  rw [run56 _ _ _ (by simp)]
  by_cases h1 : a ≤ b <;> by_cases h2 : b ≤ c <;>
  simp (maxSteps := 1000000) (disch := first | omega | decide | assumption | simp [scal]) [want_some q56_3g3, h1, h2]
theorem k54 (a b c : Int) (h : List Blk) : callH LL 54 [iv a, iv b, iv c] h = some ⟨.bool (decide (b ≤ a) && decide (a ≤ c)), h, [], []⟩ := by
  refine callH_plain (go (by decide) ?_) rfl rfl
  rw [run54 _ _ _ (by simp)]
  by_cases h1 : b ≤ a <;> by_cases h2 : a ≤ c <;>
  simp (maxSteps := 1000000) (disch := first | omega | decide | assumption | simp [scal]) [want_some q54_3g3, h1, h2]
def goodA (a : Ab) : Bool := (decide (0 ≤ a.h) && decide (a.h ≤ 10000)) && ((decide (-1000000 ≤ a.lo) && decide (a.lo ≤ a.hi)) && decide (a.hi ≤ 1000000))
theorem k57 (a : Ab) (h : List Blk) : callH LL 57 [abV a] h = some ⟨.bool (goodA a), h, [], []⟩ := by
  obtain ⟨x, y, z⟩ := a
  refine callH_none rfl (fun _ => rfl) (go (by decide) ?_) fun _ => rfl
  rw [run57 _ _ _ (by simp)]
  cases h1 : (decide (0 ≤ x) && decide (x ≤ 10000)) <;> cases h2 : (decide (-1000000 ≤ y) && decide (y ≤ z)) <;>
  simp (maxSteps := 1000000) (disch := first | omega | decide | assumption | simp [scal]) [o_fieldAddr fa_59_0 (by decide), loadA_eq ia_3, o_fieldAddr fa_59_1 (by decide), o_fieldAddr fa_57_0 (by decide), o_fieldAddr fa_57_1 (by decide), want_some q57_3g3, want_some q57_3g12, h1, h2, k56, goodA]
end Go.Proofs.Ytiafgimgcbmgaaa.bl

namespace Go.Proofs.Ytiafgimgcbmgaaa.bl
open Go.GE
set_option linter.unusedVariables false
set_option linter.unusedSimpArgs false
set_option maxRecDepth 100000
set_option maxHeartbeats 4000000
attribute [local simp] runOps_nil runOps_cons runOpsF_nil runOpsF_cons fstS_some fstF_some opStep_eq want_none oStep_true oStep_false fin_pure fin_read fin_alloc fin_write storeB wrN cellV addWr o_move o_assign o_pick o_alloc o_box o_load o_store o_nilCheck o_bin o_un o_extract o_callV o_callB o_callI callV_f callV_y callV_fc o_makeFunc partsA Instr.fill builtin_len builtin_max2 bin_add bin_sub bin_mul bin_quo bin_rem bin_lss bin_leq bin_gtr bin_geq bin_eql bin_neq un_neg un_not bin_shr bin_shl wrap_u64_id opd opds optAll putO nbeq nblt constOk isC ops sub cl cr co bodyOf thenS_normal thenS_ret thenS_exit thenS_goto afterN_normal afterN_ret afterN_exit afterN_goto condS_true condS_false blockS_normal blockS_ret blockS_exit blockS_goto headS normS normK_eq fixS_nil fixS_cons fix1 fixV emptyB keepO_nil keepO_cons roundC_normal roundC_exit roundC_ret roundC_goto sweep_eq sweepD rnm pickR pickW rootsB ptrT renT ptrFn renFn ptrB_flat ptrB_non renB_flat renB_non plainS_some drawS_some fpsOk disj unord range' dropTo enumT undef wrap_i64_id Value.cells mkCells ptrTo scal cellsAt rdN endS_ret resultsA Option.bind_some tupV finish reachN dep ptrL_eq ptrL renL_eq renL ptrV_bool ptrV_int ptrV_string ptrV_nilFunc ptrV_nilIface ptrV_nilPtr ptrV_ptr ptrV_nilSl ptrV_sl ptrV_iface ptrV_agg ptrV_tuple ptrV_func renV_bool renV_int renV_string renV_nilFunc renV_nilIface renV_nilPtr renV_ptr renV_nilSl renV_sl renV_iface renV_agg renV_tuple renV_func gotoS_goto gotoS_normal gotoS_exit gotoS_ret skip_seq sliceE bnd bndHi intOf optOpd keepT_nil keepT_cons keepC_t keepC_f lk_nil lk_cons lkC_t lkC_f has_nil has_cons hasC_t hasC_f rep_nil rep_cons repC_t repC_f put_eq putC_t putC_f mem_nil mem_cons memC_t memC_f idx_nil idx_cons idxC_t idxC_f reach_nil reach_cons reachC_t reachC_f
attribute [local simp] n22_1s n22_5s n22_8s n22_9s n22_7s n22_11s n22_14s n22_15s n22_13s n22_17s n22_20s n22_21s n22_19s n22_22s n22_18s n22_16s n22_12s n22_10s n22_6s n22_4s n22_3s n22_24s n22_27s n22_31s n22_34s n22_35s n22_33s n22_39s n22_43s n22_46s n22_47s n22_45s n22_49s n22_52s n22_53s n22_51s n22_54s n22_50s n22_48s n22_44s n22_42s n22_41s n22_55s n22_40s n22_38s n22_37s n22_56s n22_36s n22_32s n22_30s n22_29s n22_29g n22_28s n22_26s n22_58s n22_59s n22_57s n22_25s n22_23s n22_2s n22_0s Try.f22
def chkL (l : Nat → Ab) : Nat → Nat → Int → Int
  | 0, _, _ => 0
  | k + 1, i, last => if goodA (l i) = false then 1 else if (l i).h ≤ last then 5 else chkL l k (i + 1) (l i).h
noncomputable def chkS (r f : Int) (n : Nat) (l : Nat → Ab) : Int :=
  if ((decide (0 ≤ r) && decide (r ≤ 1000)) && (decide (0 ≤ f) && decide (f ≤ 1000))) = false then 1 else if n = 0 then 2 else if 40 < n then 3 else chkL l n 0 (-1)
section
variable (r f : Int) (off n c : Nat) (cs : List Value) (own : Bool) (l : Nat → Ab)
theorem l22 (hc : AbC cs off n l) (hn : n ≤ 40) : ∀ k (i : Nat) last, i + k = n →
    lpB Try.prog LL ⟨22, 46, 1, none⟩ n22_29 n22_30 ⟨[(3, iv last), (28, .slice (some ⟨0, off, none⟩) n c), (29, iv n), (30, iv i)], [.cells cs 3 true own], []⟩ =
      if chkL l k i last = 0 then some (.exit 1, ⟨[], [.cells cs 3 true own], []⟩) else some (.ret, ⟨[(2, iv (chkL l k i last))], [.cells cs 3 true own], []⟩) := by
  intro k
  induction k with
  | zero =>
    intro i last hi
    obtain rfl : i = n := by omega
    rw [lpB_eq]
    simp (maxSteps := 1000000) (disch := first | omega | decide | assumption | simp [scal]) [o_fieldAddr fa_24_0 (by decide), loadA_eq ia_3, o_fieldAddr fa_24_1 (by decide), o_fieldAddr fa_24_2 (by decide), loadA_eq ia_22, lenA_sl lk_22, o_indexAddrS es_22, loadA_eq ia_59, za_59, sz_59, o_fieldAddr fa_59_0 (by decide), want_some q22_5g4, chkL]
  | succ k ih =>
    intro i last hi
    have e1 : i < n := by omega
    have this := ih (i + 1) (l i).h (by omega)
    obtain ⟨e2, e3, e4⟩ := hc i e1
    have e5 := fun h => k57 (l i) h
    have e6 : (i : Int) < n := by omega
    rw [lpB_eq]
    simp only [cast1] at this
    cases h1 : goodA (l i)
    · simp (maxSteps := 1000000) (disch := first | omega | decide | assumption | simp [scal]) [o_fieldAddr fa_24_0 (by decide), loadA_eq ia_3, o_fieldAddr fa_24_1 (by decide), o_fieldAddr fa_24_2 (by decide), loadA_eq ia_22, lenA_sl lk_22, o_indexAddrS es_22, loadA_eq ia_59, za_59, sz_59, o_fieldAddr fa_59_0 (by decide), want_some q22_5g4, chkL, e1, e2, e3, e4, e5, e6, h1]
    · by_cases h2 : (l i).h ≤ last
      · simp (maxSteps := 1000000) (disch := first | omega | decide | assumption | simp [scal]) [o_fieldAddr fa_24_0 (by decide), loadA_eq ia_3, o_fieldAddr fa_24_1 (by decide), o_fieldAddr fa_24_2 (by decide), loadA_eq ia_22, lenA_sl lk_22, o_indexAddrS es_22, loadA_eq ia_59, za_59, sz_59, o_fieldAddr fa_59_0 (by decide), want_some q22_5g4, chkL, e1, e2, e3, e4, e5, e6, h1, h2]
      · simp (maxSteps := 1000000) (disch := first | omega | decide | assumption | simp [scal]) [o_fieldAddr fa_24_0 (by decide), loadA_eq ia_3, o_fieldAddr fa_24_1 (by decide), o_fieldAddr fa_24_2 (by decide), loadA_eq ia_22, lenA_sl lk_22, o_indexAddrS es_22, loadA_eq ia_59, za_59, sz_59, o_fieldAddr fa_59_0 (by decide), want_some q22_5g4, chkL, e1, e2, e3, e4, e5, e6, h1, h2, this]
theorem c22 (hc : AbC cs off n l) : LL.run 22 [shV r f 0 off n c] [.cells cs 3 true own] = some ⟨iv (chkS r f n l), [], []⟩ := by
  refine go (by decide) ?_
  rw [run22 _ _ _ (by simp)]
  unfold chkS
  cases h1 : (decide (0 ≤ r) && decide (r ≤ 1000))
  · simp (maxSteps := 1000000) (disch := first | omega | decide | assumption | simp [scal]) [o_fieldAddr fa_24_0 (by decide), loadA_eq ia_3, o_fieldAddr fa_24_1 (by decide), o_fieldAddr fa_24_2 (by decide), loadA_eq ia_22, lenA_sl lk_22, o_indexAddrS es_22, loadA_eq ia_59, za_59, sz_59, o_fieldAddr fa_59_0 (by decide), want_some q22_5g4, k56, h1]
  cases h2 : (decide (0 ≤ f) && decide (f ≤ 1000))
  · simp (maxSteps := 1000000) (disch := first | omega | decide | assumption | simp [scal]) [o_fieldAddr fa_24_0 (by decide), loadA_eq ia_3, o_fieldAddr fa_24_1 (by decide), o_fieldAddr fa_24_2 (by decide), loadA_eq ia_22, lenA_sl lk_22, o_indexAddrS es_22, loadA_eq ia_59, za_59, sz_59, o_fieldAddr fa_59_0 (by decide), want_some q22_5g4, k56, h1, h2]
  by_cases h3 : n = 0
  · subst h3
    simp (maxSteps := 1000000) (disch := first | omega | decide | assumption | simp [scal]) [o_fieldAddr fa_24_0 (by decide), loadA_eq ia_3, o_fieldAddr fa_24_1 (by decide), o_fieldAddr fa_24_2 (by decide), loadA_eq ia_22, lenA_sl lk_22, o_indexAddrS es_22, loadA_eq ia_59, za_59, sz_59, o_fieldAddr fa_59_0 (by decide), want_some q22_5g4, k56, h1, h2]
  have h3' : ¬ (n : Int) = 0 := by omega
  by_cases h4 : 40 < n
  · have h4' : (40 : Int) < n := by omega
    simp (maxSteps := 1000000) (disch := first | omega | decide | assumption | simp [scal]) [o_fieldAddr fa_24_0 (by decide), loadA_eq ia_3, o_fieldAddr fa_24_1 (by decide), o_fieldAddr fa_24_2 (by decide), loadA_eq ia_22, lenA_sl lk_22, o_indexAddrS es_22, loadA_eq ia_59, za_59, sz_59, o_fieldAddr fa_59_0 (by decide), want_some q22_5g4, k56, h1, h2, h3, h3', h4, h4']
  have h4' : ¬ (40 : Int) < n := by omega
  have this := l22 off n c cs own l hc (by omega) n 0 (-1) (by omega)
  simp only [Int.natCast_zero] at this
  by_cases h5 : chkL l n 0 (-1) = 0
  · rw [if_pos h5] at this
    simp (maxSteps := 1000000) (disch := first | omega | decide | assumption | simp [scal]) [o_fieldAddr fa_24_0 (by decide), loadA_eq ia_3, o_fieldAddr fa_24_1 (by decide), o_fieldAddr fa_24_2 (by decide), loadA_eq ia_22, lenA_sl lk_22, o_indexAddrS es_22, loadA_eq ia_59, za_59, sz_59, o_fieldAddr fa_59_0 (by decide), want_some q22_5g4, k56, h1, h2, h3, h3', h4, h4', this, h5]
  · rw [if_neg h5] at this
    simp (maxSteps := 1000000) (disch := first | omega | decide | assumption | simp [scal]) [o_fieldAddr fa_24_0 (by decide), loadA_eq ia_3, o_fieldAddr fa_24_1 (by decide), o_fieldAddr fa_24_2 (by decide), loadA_eq ia_22, lenA_sl lk_22, o_indexAddrS es_22, loadA_eq ia_59, za_59, sz_59, o_fieldAddr fa_59_0 (by decide), want_some q22_5g4, k56, h1, h2, h3, h3', h4, h4', this]
end
section
variable (r f : Int) (b off n c : Nat) {cs : List Value} {own : Bool} (l : Nat → Ab) {h : List Blk}
theorem sh_ren : optAll (renV (idx [b]) dep) [shV r f b off n c] = some [shV r f 0 off n c] := by simp [renV, dep, optAll, idx, nbeq]
theorem k22 (hb : h[b]? = some (.cells cs 3 true own)) (hc : AbC cs off n l) : callH LL 22 [shV r f b off n c] h = some ⟨iv (chkS r f n l), h, [b], []⟩ :=
  callH_1 rfl hb noIdB_flat (sh_ren r f b off n c) (c22 r f off n c cs own l hc) fun _ => rfl
end
end Go.Proofs.Ytiafgimgcbmgaaa.bl

namespace Go.Proofs.Ytiafgimgcbmgaaa.bl
open Go.GE
set_option linter.unusedVariables false
set_option linter.unusedSimpArgs false
set_option maxRecDepth 100000
set_option maxHeartbeats 4000000
attribute [local simp] runOps_nil runOps_cons runOpsF_nil runOpsF_cons fstS_some fstF_some opStep_eq want_none oStep_true oStep_false fin_pure fin_read fin_alloc fin_write storeB wrN cellV addWr o_move o_assign o_pick o_alloc o_box o_load o_store o_nilCheck o_bin o_un o_extract o_callV o_callB o_callI callV_f callV_y callV_fc o_makeFunc partsA Instr.fill builtin_len builtin_max2 bin_add bin_sub bin_mul bin_quo bin_rem bin_lss bin_leq bin_gtr bin_geq bin_eql bin_neq un_neg un_not bin_shr bin_shl wrap_u64_id opd opds optAll putO nbeq nblt constOk isC ops sub cl cr co bodyOf thenS_normal thenS_ret thenS_exit thenS_goto afterN_normal afterN_ret afterN_exit afterN_goto condS_true condS_false blockS_normal blockS_ret blockS_exit blockS_goto headS normS normK_eq fixS_nil fixS_cons fix1 fixV emptyB keepO_nil keepO_cons roundC_normal roundC_exit roundC_ret roundC_goto sweep_eq sweepD rnm pickR pickW rootsB ptrT renT ptrFn renFn ptrB_flat ptrB_non renB_flat renB_non plainS_some drawS_some fpsOk disj unord range' dropTo enumT undef wrap_i64_id Value.cells mkCells ptrTo scal cellsAt rdN endS_ret resultsA Option.bind_some tupV finish reachN dep ptrL_eq ptrL renL_eq renL ptrV_bool ptrV_int ptrV_string ptrV_nilFunc ptrV_nilIface ptrV_nilPtr ptrV_ptr ptrV_nilSl ptrV_sl ptrV_iface ptrV_agg ptrV_tuple ptrV_func renV_bool renV_int renV_string renV_nilFunc renV_nilIface renV_nilPtr renV_ptr renV_nilSl renV_sl renV_iface renV_agg renV_tuple renV_func gotoS_goto gotoS_normal gotoS_exit gotoS_ret skip_seq sliceE bnd bndHi intOf optOpd keepT_nil keepT_cons keepC_t keepC_f lk_nil lk_cons lkC_t lkC_f has_nil has_cons hasC_t hasC_f rep_nil rep_cons repC_t repC_f put_eq putC_t putC_f mem_nil mem_cons memC_t memC_f idx_nil idx_cons idxC_t idxC_f reach_nil reach_cons reachC_t reachC_f
attribute [local simp] n23_1s n23_4s n23_7s n23_8s n23_6s n23_9s n23_5s n23_3s n23_12s n23_15s n23_16s n23_14s n23_17s n23_13s n23_11s n23_20s n23_23s n23_24s n23_22s n23_25s n23_21s n23_19s n23_28s n23_33s n23_35s n23_36s n23_34s n23_32s n23_40s n23_43s n23_46s n23_47s n23_45s n23_48s n23_44s n23_42s n23_50s n23_53s n23_54s n23_52s n23_55s n23_51s n23_49s n23_41s n23_39s n23_38s n23_56s n23_37s n23_31s n23_30s n23_30g n23_29s n23_27s n23_58s n23_59s n23_57s n23_26s n23_18s n23_10s n23_2s n23_0s Try.f23
def lastL (l : Nat → Ab) (i : Nat) : Int := if i = 0 then -1 else (l (i - 1)).h
abbrev shB (r f : Int) (b off n c : Nat) : Blk := .cells [iv r, iv f, .slice (some ⟨b, off, none⟩) n c] 1 false true
section
variable (r f : Int) (off n c : Nat) (cs : List Value) (own : Bool) (l : Nat → Ab)
theorem l23 (hc : AbC cs off n l) (hn : n ≤ 40) : ∀ k (i : Nat), i + k = n →
    lpB Try.prog LL ⟨23, 69, 1, none⟩ n23_30 n23_31 ⟨[(1, .pointer (some ⟨1, 0, none⟩)), (3, iv i)], [.cells cs 3 true own, shB r f 0 off n c], []⟩ =
      if chkL l k i (lastL l i) = 0 then some (.exit 0, ⟨[], [.cells cs 3 true own], []⟩) else some (.ret, ⟨[(2, iv (chkL l k i (lastL l i)))], [.cells cs 3 true own], []⟩) := by
  intro k
  induction k with
  | zero =>
    intro i hi
    obtain rfl : i = n := by omega
    rw [lpB_eq]
    simp (maxSteps := 1000000) (disch := first | omega | decide | assumption | simp [scal]) [o_fieldAddr fa_29_0 (by decide), loadA_eq ia_3, o_fieldAddr fa_29_1 (by decide), o_fieldAddr fa_29_2 (by decide), loadA_eq ia_27, lenA_sl lk_27, o_indexAddrS es_27, loadA_eq ia_108, za_108, sz_108, o_fieldAddr fa_108_0 (by decide), o_fieldAddr fa_108_1 (by decide), o_fieldAddr fa_57_0 (by decide), o_fieldAddr fa_57_1 (by decide), want_some q23_4g4, want_some q23_43g4, want_some q23_43g14, want_some q23_50g2, chkL]
  | succ k ih =>
    intro i hi
    have e1 : i < n := by omega
    have this := ih (i + 1) (by omega)
    have el : lastL l (i + 1) = (l i).h := by simp [lastL]
    rw [el] at this
    obtain ⟨e2, e3, e4⟩ := hc i e1
    have e6 : (i : Int) < n := by omega
    rw [lpB_eq]
    simp only [cast1] at this
    have eg : goodA (l i) = ((decide (0 ≤ (l i).h) && decide ((l i).h ≤ 10000)) && ((decide (-1000000 ≤ (l i).lo) && decide ((l i).lo ≤ (l i).hi)) && decide ((l i).hi ≤ 1000000))) := rfl
    cases h1 : (decide (0 ≤ (l i).h) && decide ((l i).h ≤ 10000))
    · rw [h1] at eg
      simp (maxSteps := 1000000) (disch := first | omega | decide | assumption | simp [scal]) [o_fieldAddr fa_29_0 (by decide), loadA_eq ia_3, o_fieldAddr fa_29_1 (by decide), o_fieldAddr fa_29_2 (by decide), loadA_eq ia_27, lenA_sl lk_27, o_indexAddrS es_27, loadA_eq ia_108, za_108, sz_108, o_fieldAddr fa_108_0 (by decide), o_fieldAddr fa_108_1 (by decide), o_fieldAddr fa_57_0 (by decide), o_fieldAddr fa_57_1 (by decide), want_some q23_4g4, want_some q23_43g4, want_some q23_43g14, want_some q23_50g2, chkL, k54, e1, e2, e3, e4, e6, h1, eg]
    rw [h1] at eg
    have h1' := h1
    simp only [Bool.and_eq_true, decide_eq_true_eq] at h1'
    cases h2 : (decide (-1000000 ≤ (l i).lo) && decide ((l i).lo ≤ (l i).hi))
    · rw [h2] at eg
      simp (maxSteps := 1000000) (disch := first | omega | decide | assumption | simp [scal]) [o_fieldAddr fa_29_0 (by decide), loadA_eq ia_3, o_fieldAddr fa_29_1 (by decide), o_fieldAddr fa_29_2 (by decide), loadA_eq ia_27, lenA_sl lk_27, o_indexAddrS es_27, loadA_eq ia_108, za_108, sz_108, o_fieldAddr fa_108_0 (by decide), o_fieldAddr fa_108_1 (by decide), o_fieldAddr fa_57_0 (by decide), o_fieldAddr fa_57_1 (by decide), want_some q23_4g4, want_some q23_43g4, want_some q23_43g14, want_some q23_50g2, chkL, k54, e1, e2, e3, e4, e6, h1, h2, eg]
    rw [h2] at eg
    by_cases h3 : 1000000 < (l i).hi
    · rw [decide_eq_false (show ¬ (l i).hi ≤ 1000000 by omega)] at eg
      simp (maxSteps := 1000000) (disch := first | omega | decide | assumption | simp [scal]) [o_fieldAddr fa_29_0 (by decide), loadA_eq ia_3, o_fieldAddr fa_29_1 (by decide), o_fieldAddr fa_29_2 (by decide), loadA_eq ia_27, lenA_sl lk_27, o_indexAddrS es_27, loadA_eq ia_108, za_108, sz_108, o_fieldAddr fa_108_0 (by decide), o_fieldAddr fa_108_1 (by decide), o_fieldAddr fa_57_0 (by decide), o_fieldAddr fa_57_1 (by decide), want_some q23_4g4, want_some q23_43g4, want_some q23_43g14, want_some q23_50g2, chkL, k54, e1, e2, e3, e4, e6, h1, h2, h3, eg]
    rw [decide_eq_true (show (l i).hi ≤ 1000000 by omega)] at eg
    by_cases h0 : i = 0
    · have h4 : ¬ (l i).h ≤ -1 := by omega
      have e7 : ¬ 0 < i := by omega
      have e8 : lastL l i = -1 := by simp [lastL, h0]
      simp (maxSteps := 1000000) (disch := first | omega | decide | assumption | simp [scal]) [o_fieldAddr fa_29_0 (by decide), loadA_eq ia_3, o_fieldAddr fa_29_1 (by decide), o_fieldAddr fa_29_2 (by decide), loadA_eq ia_27, lenA_sl lk_27, o_indexAddrS es_27, loadA_eq ia_108, za_108, sz_108, o_fieldAddr fa_108_0 (by decide), o_fieldAddr fa_108_1 (by decide), o_fieldAddr fa_57_0 (by decide), o_fieldAddr fa_57_1 (by decide), want_some q23_4g4, want_some q23_43g4, want_some q23_43g14, want_some q23_50g2, chkL, k54, e1, e2, e3, e4, e6, e7, e8, h1, h2, h3, h4, eg, this]
    · obtain ⟨j, hj⟩ : ∃ j, i = j + 1 := ⟨i - 1, by omega⟩
      obtain ⟨p2, p3, p4⟩ := hc j (by omega)
      have e7 : 0 < i := by omega
      have e8 : lastL l i = (l j).h := by subst hj; simp [lastL]
      rw [e8]
      have e9 : (i : Int) - 1 = j := by omega
      have e10 : j < n := by omega
      by_cases h4 : (l i).h ≤ (l j).h
      · simp (maxSteps := 1000000) (disch := first | omega | decide | assumption | simp [scal]) [o_fieldAddr fa_29_0 (by decide), loadA_eq ia_3, o_fieldAddr fa_29_1 (by decide), o_fieldAddr fa_29_2 (by decide), loadA_eq ia_27, lenA_sl lk_27, o_indexAddrS es_27, loadA_eq ia_108, za_108, sz_108, o_fieldAddr fa_108_0 (by decide), o_fieldAddr fa_108_1 (by decide), o_fieldAddr fa_57_0 (by decide), o_fieldAddr fa_57_1 (by decide), want_some q23_4g4, want_some q23_43g4, want_some q23_43g14, want_some q23_50g2, chkL, k54, e1, e2, e3, e4, e6, e7, e9, e10, h1, h2, h3, h4, eg, p2, p3, p4]
      · simp (maxSteps := 1000000) (disch := first | omega | decide | assumption | simp [scal]) [o_fieldAddr fa_29_0 (by decide), loadA_eq ia_3, o_fieldAddr fa_29_1 (by decide), o_fieldAddr fa_29_2 (by decide), loadA_eq ia_27, lenA_sl lk_27, o_indexAddrS es_27, loadA_eq ia_108, za_108, sz_108, o_fieldAddr fa_108_0 (by decide), o_fieldAddr fa_108_1 (by decide), o_fieldAddr fa_57_0 (by decide), o_fieldAddr fa_57_1 (by decide), want_some q23_4g4, want_some q23_43g4, want_some q23_43g14, want_some q23_50g2, chkL, k54, e1, e2, e3, e4, e6, e7, e9, e10, h1, h2, h3, h4, eg, p2, p3, p4, this]
theorem c23 (hc : AbC cs off n l) : LL.run 23 [shV r f 0 off n c] [.cells cs 3 true own] = some ⟨iv (chkS r f n l), [], []⟩ := by
  refine go (by decide) ?_
  rw [run23 _ _ _ (by simp)]
  unfold chkS
  cases h1 : (decide (0 ≤ r) && decide (r ≤ 1000))
  · simp (maxSteps := 1000000) (disch := first | omega | decide | assumption | simp [scal]) [o_fieldAddr fa_29_0 (by decide), loadA_eq ia_3, o_fieldAddr fa_29_1 (by decide), o_fieldAddr fa_29_2 (by decide), loadA_eq ia_27, lenA_sl lk_27, o_indexAddrS es_27, loadA_eq ia_108, za_108, sz_108, o_fieldAddr fa_108_0 (by decide), o_fieldAddr fa_108_1 (by decide), o_fieldAddr fa_57_0 (by decide), o_fieldAddr fa_57_1 (by decide), want_some q23_4g4, want_some q23_43g4, want_some q23_43g14, want_some q23_50g2, k54, h1]
  cases h2 : (decide (0 ≤ f) && decide (f ≤ 1000))
  · simp (maxSteps := 1000000) (disch := first | omega | decide | assumption | simp [scal]) [o_fieldAddr fa_29_0 (by decide), loadA_eq ia_3, o_fieldAddr fa_29_1 (by decide), o_fieldAddr fa_29_2 (by decide), loadA_eq ia_27, lenA_sl lk_27, o_indexAddrS es_27, loadA_eq ia_108, za_108, sz_108, o_fieldAddr fa_108_0 (by decide), o_fieldAddr fa_108_1 (by decide), o_fieldAddr fa_57_0 (by decide), o_fieldAddr fa_57_1 (by decide), want_some q23_4g4, want_some q23_43g4, want_some q23_43g14, want_some q23_50g2, k54, h1, h2]
  by_cases h3 : n = 0
  · subst h3
    simp (maxSteps := 1000000) (disch := first | omega | decide | assumption | simp [scal]) [o_fieldAddr fa_29_0 (by decide), loadA_eq ia_3, o_fieldAddr fa_29_1 (by decide), o_fieldAddr fa_29_2 (by decide), loadA_eq ia_27, lenA_sl lk_27, o_indexAddrS es_27, loadA_eq ia_108, za_108, sz_108, o_fieldAddr fa_108_0 (by decide), o_fieldAddr fa_108_1 (by decide), o_fieldAddr fa_57_0 (by decide), o_fieldAddr fa_57_1 (by decide), want_some q23_4g4, want_some q23_43g4, want_some q23_43g14, want_some q23_50g2, k54, h1, h2]
  have h3' : ¬ (n : Int) = 0 := by omega
  by_cases h4 : 40 < n
  · have h4' : (40 : Int) < n := by omega
    simp (maxSteps := 1000000) (disch := first | omega | decide | assumption | simp [scal]) [o_fieldAddr fa_29_0 (by decide), loadA_eq ia_3, o_fieldAddr fa_29_1 (by decide), o_fieldAddr fa_29_2 (by decide), loadA_eq ia_27, lenA_sl lk_27, o_indexAddrS es_27, loadA_eq ia_108, za_108, sz_108, o_fieldAddr fa_108_0 (by decide), o_fieldAddr fa_108_1 (by decide), o_fieldAddr fa_57_0 (by decide), o_fieldAddr fa_57_1 (by decide), want_some q23_4g4, want_some q23_43g4, want_some q23_43g14, want_some q23_50g2, k54, h1, h2, h3, h3', h4, h4']
  have h4' : ¬ (40 : Int) < n := by omega
  have this := l23 r f off n c cs own l hc (by omega) n 0 (by omega)
  have e0 : lastL l 0 = -1 := rfl
  simp only [Int.natCast_zero, e0] at this
  by_cases h5 : chkL l n 0 (-1) = 0
  · rw [if_pos h5] at this
    simp (maxSteps := 1000000) (disch := first | omega | decide | assumption | simp [scal]) [o_fieldAddr fa_29_0 (by decide), loadA_eq ia_3, o_fieldAddr fa_29_1 (by decide), o_fieldAddr fa_29_2 (by decide), loadA_eq ia_27, lenA_sl lk_27, o_indexAddrS es_27, loadA_eq ia_108, za_108, sz_108, o_fieldAddr fa_108_0 (by decide), o_fieldAddr fa_108_1 (by decide), o_fieldAddr fa_57_0 (by decide), o_fieldAddr fa_57_1 (by decide), want_some q23_4g4, want_some q23_43g4, want_some q23_43g14, want_some q23_50g2, k54, h1, h2, h3, h3', h4, h4', this, h5]
  · rw [if_neg h5] at this
    simp (maxSteps := 1000000) (disch := first | omega | decide | assumption | simp [scal]) [o_fieldAddr fa_29_0 (by decide), loadA_eq ia_3, o_fieldAddr fa_29_1 (by decide), o_fieldAddr fa_29_2 (by decide), loadA_eq ia_27, lenA_sl lk_27, o_indexAddrS es_27, loadA_eq ia_108, za_108, sz_108, o_fieldAddr fa_108_0 (by decide), o_fieldAddr fa_108_1 (by decide), o_fieldAddr fa_57_0 (by decide), o_fieldAddr fa_57_1 (by decide), want_some q23_4g4, want_some q23_43g4, want_some q23_43g14, want_some q23_50g2, k54, h1, h2, h3, h3', h4, h4', this]
end
section
variable (r f : Int) (b off n c : Nat) {cs : List Value} {own : Bool} (l : Nat → Ab) {h : List Blk}
theorem k23 (hb : h[b]? = some (.cells cs 3 true own)) (hc : AbC cs off n l) : callH LL 23 [shV r f b off n c] h = some ⟨iv (chkS r f n l), h, [b], []⟩ :=
  callH_1 rfl hb noIdB_flat (sh_ren r f b off n c) (c23 r f off n c cs own l hc) fun _ => rfl
end
end Go.Proofs.Ytiafgimgcbmgaaa.bl

namespace Go.Proofs.Ytiafgimgcbmgaaa.bl
open Go.GE
set_option linter.unusedVariables false
set_option linter.unusedSimpArgs false
set_option maxRecDepth 100000
set_option maxHeartbeats 4000000
attribute [local simp] runOps_nil runOps_cons runOpsF_nil runOpsF_cons fstS_some fstF_some opStep_eq want_none oStep_true oStep_false fin_pure fin_read fin_alloc fin_write storeB wrN cellV addWr o_move o_assign o_pick o_alloc o_box o_load o_store o_nilCheck o_bin o_un o_extract o_callV o_callB o_callI callV_f callV_y callV_fc o_makeFunc partsA Instr.fill builtin_len builtin_max2 bin_add bin_sub bin_mul bin_quo bin_rem bin_lss bin_leq bin_gtr bin_geq bin_eql bin_neq un_neg un_not bin_shr bin_shl wrap_u64_id opd opds optAll putO nbeq nblt constOk isC ops sub cl cr co bodyOf thenS_normal thenS_ret thenS_exit thenS_goto afterN_normal afterN_ret afterN_exit afterN_goto condS_true condS_false blockS_normal blockS_ret blockS_exit blockS_goto headS normS normK_eq fixS_nil fixS_cons fix1 fixV emptyB keepO_nil keepO_cons roundC_normal roundC_exit roundC_ret roundC_goto sweep_eq sweepD rnm pickR pickW rootsB ptrT renT ptrFn renFn ptrB_flat ptrB_non renB_flat renB_non plainS_some drawS_some fpsOk disj unord range' dropTo enumT undef wrap_i64_id Value.cells mkCells ptrTo scal cellsAt rdN endS_ret resultsA Option.bind_some tupV finish reachN dep ptrL_eq ptrL renL_eq renL ptrV_bool ptrV_int ptrV_string ptrV_nilFunc ptrV_nilIface ptrV_nilPtr ptrV_ptr ptrV_nilSl ptrV_sl ptrV_iface ptrV_agg ptrV_tuple ptrV_func renV_bool renV_int renV_string renV_nilFunc renV_nilIface renV_nilPtr renV_ptr renV_nilSl renV_sl renV_iface renV_agg renV_tuple renV_func gotoS_goto gotoS_normal gotoS_exit gotoS_ret skip_seq sliceE bnd bndHi intOf optOpd keepT_nil keepT_cons keepC_t keepC_f lk_nil lk_cons lkC_t lkC_f has_nil has_cons hasC_t hasC_f rep_nil rep_cons repC_t repC_f put_eq putC_t putC_f mem_nil mem_cons memC_t memC_f idx_nil idx_cons idxC_t idxC_f reach_nil reach_cons reachC_t reachC_f
attribute [local simp] n85_1s n85_4s n85_6s n85_9s n85_10s n85_8s n85_11s n85_7s n85_5s n85_3s n85_13s n85_15s n85_16s n85_14s n85_12s n85_2s n85_0s Try.f85 n58_1s n58_3s n58_5s n58_6s n58_4s n58_2s n58_0s Try.f58 n59_1s n59_3s n59_5s n59_6s n59_4s n59_2s n59_0s Try.f59
structure Dr (r f : Int) : Prop where
  r0 : 0 ≤ r
  r1 : r ≤ 1000
  f0 : 0 ≤ f
  f1 : f ≤ 1000
structure OkA (a : Ab) : Prop where
  h0 : 0 ≤ a.h
  h1 : a.h ≤ 10000
  l0 : -1000000 ≤ a.lo
  l1 : a.lo ≤ a.hi
  l2 : a.hi ≤ 1000000
theorem okA_iff (a : Ab) : goodA a = true ↔ OkA a := by
  simp only [goodA, Bool.and_eq_true, decide_eq_true_eq]
  exact ⟨fun ⟨⟨a, b⟩, ⟨c, d⟩, e⟩ => ⟨a, b, c, d, e⟩, fun ⟨a, b, c, d, e⟩ => ⟨⟨a, b⟩, ⟨c, d⟩, e⟩⟩
theorem mulB {d f : Int} (h0 : 0 ≤ d) (h1 : d ≤ 10000) (f0 : 0 ≤ f) (f1 : f ≤ 1000) : 0 ≤ d * f ∧ d * f ≤ 10000000 := by
  refine ⟨Int.mul_nonneg h0 f0, ?_⟩
  have := Int.mul_le_mul h1 f1 f0 (by omega)
  omega
/-- the values at an hour by one absolute -/
def arLo (r f : Int) (a : Ab) (x : Int) : Int := if 0 ≤ x - a.h then a.lo - (x - a.h) * f else a.lo - (a.h - x) * r
def arHi (r f : Int) (a : Ab) (x : Int) : Int := if 0 ≤ x - a.h then a.hi + (x - a.h) * r else a.hi + (a.h - x) * f
theorem ar_bd {r f : Int} (D : Dr r f) {a : Ab} (A : OkA a) {x : Int} (x0 : 0 ≤ x) (x1 : x ≤ 10000) : -11000000 ≤ arLo r f a x ∧ arLo r f a x ≤ 1000000 ∧ -1000000 ≤ arHi r f a x ∧ arHi r f a x ≤ 11000000 := by
  obtain ⟨r0, r1, f0, f1⟩ := D
  obtain ⟨h0, h1, l0, l1, l2⟩ := A
  unfold arLo arHi
  split
  · have m1 := mulB (d := x - a.h) (by omega) (by omega) f0 f1
    have m2 := mulB (d := x - a.h) (by omega) (by omega) r0 r1
    omega
  · have m1 := mulB (d := a.h - x) (by omega) (by omega) f0 f1
    have m2 := mulB (d := a.h - x) (by omega) (by omega) r0 r1
    omega
section
variable (r f : Int) (b off n c : Nat) {cs : List Value} {own : Bool} {h : List Blk}
theorem k85 (D : Dr r f) (a : Ab) (A : OkA a) (x : Int) (x0 : 0 ≤ x) (x1 : x ≤ 10000) (hb : h[b]? = some (.cells cs 3 true own)) :
    callH LL 85 [shV r f b off n c, abV a, iv x] h = some ⟨.agg #[iv (arLo r f a x), iv (arHi r f a x)], h, [b], []⟩ := by
  obtain ⟨r0, r1, f0, f1⟩ := D
  obtain ⟨ah, al, au⟩ := a
  obtain ⟨h0, h1, l0, l1, l2⟩ := A
  simp only at h0 h1 l0 l1 l2
  refine callH_1 rfl hb noIdB_flat (args' := [shV r f 0 off n c, abV ⟨ah, al, au⟩, iv x]) (by simp [renV, dep, optAll, idx, nbeq]) (go (by decide) ?_) fun _ => rfl
  rw [run85 _ _ _ (by simp)]
  simp only [arLo, arHi]
  by_cases hx : 0 ≤ x - ah
  · rw [if_pos hx, if_pos hx]
    obtain ⟨d, hd⟩ : ∃ d, x - ah = d := ⟨_, rfl⟩
    have m1 := mulB (d := d) (by omega) (by omega) f0 f1
    have m2 := mulB (d := d) (by omega) (by omega) r0 r1
    rw [hd] at hx ⊢
    simp (maxSteps := 1000000) (disch := first | omega | decide | assumption | simp [scal]) [za_57, o_fieldAddr fa_59_0 (by decide), loadA_eq ia_3, o_fieldAddr fa_59_1 (by decide), o_fieldAddr fa_57_0 (by decide), o_fieldAddr fa_24_1 (by decide), o_fieldAddr fa_57_1 (by decide), o_fieldAddr fa_24_0 (by decide), o_build za_57 pl_57, sz_57, loadA_eq ia_57, hd, hx]
  · rw [if_neg hx, if_neg hx]
    obtain ⟨d, hd⟩ : ∃ d, ah - x = d := ⟨_, rfl⟩
    have m1 := mulB (d := d) (by omega) (by omega) f0 f1
    have m2 := mulB (d := d) (by omega) (by omega) r0 r1
    have hx' : ¬ (ah ≤ x) := by omega
    rw [hd]
    simp (maxSteps := 1000000) (disch := first | omega | decide | assumption | simp [scal]) [za_57, o_fieldAddr fa_59_0 (by decide), loadA_eq ia_3, o_fieldAddr fa_59_1 (by decide), o_fieldAddr fa_57_0 (by decide), o_fieldAddr fa_24_1 (by decide), o_fieldAddr fa_57_1 (by decide), o_fieldAddr fa_24_0 (by decide), o_build za_57 pl_57, sz_57, loadA_eq ia_57, hd, hx']
/-- two absolutes, the earlier one first, need a step -/
def needS (r f : Int) (a b : Ab) : Bool := decide (b.hi < arLo r f a b.h) || decide (arHi r f a b.h < b.lo)
theorem k58 (D : Dr r f) (a : Ab) (A : OkA a) (d : Ab) (B : OkA d) (hb : h[b]? = some (.cells cs 3 true own)) :
    callH LL 58 [shV r f b off n c, abV a, abV d] h = some ⟨.bool (needS r f a d), h, [b], []⟩ := by
  have e1 := fun (h : List Blk) hb => k85 r f 0 off n c (h := h) (cs := cs) (own := own) D a A d.h B.h0 B.h1 hb
  obtain ⟨dh, dl, du⟩ := d
  refine callH_1 rfl hb noIdB_flat (args' := [shV r f 0 off n c, abV a, abV ⟨dh, dl, du⟩]) (by simp [renV, dep, optAll, idx, nbeq]) (go (by decide) ?_) fun _ => rfl
  rw [run58 _ _ _ (by simp)]
  simp only [needS] at e1 ⊢
  obtain ⟨x1, hx1⟩ : ∃ x, arLo r f a dh = x := ⟨_, rfl⟩
  obtain ⟨x2, hx2⟩ : ∃ x, arHi r f a dh = x := ⟨_, rfl⟩
  rw [hx1, hx2]
  simp only [hx1, hx2] at e1
  by_cases q1 : du < x1 <;> by_cases q2 : x2 < dl <;>
  simp (maxSteps := 1000000) (disch := first | omega | decide | assumption | simp [scal]) [loadA_eq ia_24, loadA_eq ia_59, o_fieldAddr fa_59_0 (by decide), loadA_eq ia_3, za_57, sz_57, o_fieldAddr fa_57_0 (by decide), o_fieldAddr fa_59_1 (by decide), o_fieldAddr fa_57_1 (by decide), loadA_eq ia_57, want_some q58_5g6, e1, q1, q2]
theorem k59 (D : Dr r f) (a : Ab) (A : OkA a) (d : Ab) (B : OkA d) (hle : a.h ≤ d.h) (hb : h[b]? = some (.cells cs 3 true own)) :
    callH LL 59 [shV r f b off n c, abV a, abV d] h = some ⟨.bool (needS r f a d), h, [b], []⟩ := by
  have hE : needS r f a d = (decide (r * (d.h - a.h) < d.lo - a.hi) || decide (f * (d.h - a.h) < a.lo - d.hi)) := by
    unfold needS arLo arHi
    rw [if_pos (by omega), if_pos (by omega), Int.mul_comm r, Int.mul_comm f, Bool.or_comm]
    congr 1 <;> (apply decide_eq_decide.2; omega)
  rw [hE]
  obtain ⟨r0, r1, f0, f1⟩ := D
  obtain ⟨dh, dl, du⟩ := d
  obtain ⟨ah, al, au⟩ := a
  obtain ⟨h0, h1, l0, l1, l2⟩ := A
  obtain ⟨g0, g1, k0, k1, k2⟩ := B
  simp only at *
  refine callH_1 rfl hb noIdB_flat (args' := [shV r f 0 off n c, abV ⟨ah, al, au⟩, abV ⟨dh, dl, du⟩]) (by simp [renV, dep, optAll, idx, nbeq]) (go (by decide) ?_) fun _ => rfl
  rw [run59 _ _ _ (by simp)]
  obtain ⟨e, he⟩ : ∃ e, dh - ah = e := ⟨_, rfl⟩
  have m1 := mulB (d := e) (by omega) (by omega) f0 f1
  have m2 := mulB (d := e) (by omega) (by omega) r0 r1
  rw [he]
  rw [Int.mul_comm] at m1 m2
  by_cases q1 : r * e < dl - au
  · have q2 : ¬ f * e < al - du := by omega
    simp (maxSteps := 1000000) (disch := first | omega | decide | assumption | simp [scal]) [o_fieldAddr fa_108_0 (by decide), loadA_eq ia_3, o_fieldAddr fa_108_1 (by decide), o_fieldAddr fa_57_0 (by decide), o_fieldAddr fa_57_1 (by decide), o_fieldAddr fa_29_0 (by decide), o_fieldAddr fa_29_1 (by decide), want_some q59_5g12, he, q1, q2]
  · by_cases q2 : f * e < al - du <;>
    simp (maxSteps := 1000000) (disch := first | omega | decide | assumption | simp [scal]) [o_fieldAddr fa_108_0 (by decide), loadA_eq ia_3, o_fieldAddr fa_108_1 (by decide), o_fieldAddr fa_57_0 (by decide), o_fieldAddr fa_57_1 (by decide), o_fieldAddr fa_29_0 (by decide), o_fieldAddr fa_29_1 (by decide), want_some q59_5g12, he, q1, q2]
end
end Go.Proofs.Ytiafgimgcbmgaaa.bl

namespace Go.Proofs.Ytiafgimgcbmgaaa.bl
open Go.GE
set_option linter.unusedVariables false
set_option linter.unusedSimpArgs false
set_option maxRecDepth 100000
set_option maxHeartbeats 4000000
attribute [local simp] runOps_nil runOps_cons runOpsF_nil runOpsF_cons fstS_some fstF_some opStep_eq want_none oStep_true oStep_false fin_pure fin_read fin_alloc fin_write storeB wrN cellV addWr o_move o_assign o_pick o_alloc o_box o_load o_store o_nilCheck o_bin o_un o_extract o_callV o_callB o_callI callV_f callV_y callV_fc o_makeFunc partsA Instr.fill builtin_len builtin_max2 bin_add bin_sub bin_mul bin_quo bin_rem bin_lss bin_leq bin_gtr bin_geq bin_eql bin_neq un_neg un_not bin_shr bin_shl wrap_u64_id opd opds optAll putO nbeq nblt constOk isC ops sub cl cr co bodyOf thenS_normal thenS_ret thenS_exit thenS_goto afterN_normal afterN_ret afterN_exit afterN_goto condS_true condS_false blockS_normal blockS_ret blockS_exit blockS_goto headS normS normK_eq fixS_nil fixS_cons fix1 fixV emptyB keepO_nil keepO_cons roundC_normal roundC_exit roundC_ret roundC_goto sweep_eq sweepD rnm pickR pickW rootsB ptrT renT ptrFn renFn ptrB_flat ptrB_non renB_flat renB_non plainS_some drawS_some fpsOk disj unord range' dropTo enumT undef wrap_i64_id Value.cells mkCells ptrTo scal cellsAt rdN endS_ret resultsA Option.bind_some tupV finish reachN dep ptrL_eq ptrL renL_eq renL ptrV_bool ptrV_int ptrV_string ptrV_nilFunc ptrV_nilIface ptrV_nilPtr ptrV_ptr ptrV_nilSl ptrV_sl ptrV_iface ptrV_agg ptrV_tuple ptrV_func renV_bool renV_int renV_string renV_nilFunc renV_nilIface renV_nilPtr renV_ptr renV_nilSl renV_sl renV_iface renV_agg renV_tuple renV_func gotoS_goto gotoS_normal gotoS_exit gotoS_ret skip_seq sliceE bnd bndHi intOf optOpd keepT_nil keepT_cons keepC_t keepC_f lk_nil lk_cons lkC_t lkC_f has_nil has_cons hasC_t hasC_f rep_nil rep_cons repC_t repC_f put_eq putC_t putC_f mem_nil mem_cons memC_t memC_f idx_nil idx_cons idxC_t idxC_f reach_nil reach_cons reachC_t reachC_f
attribute [local simp] n109_1s n109_3s n109_4s n109_2s n109_0s Try.f109 n111_1s n111_3s n111_4s n111_2s n111_0s Try.f111 n108_1s n108_3s n108_4s n108_2s n108_0s Try.f108 n104_1s n104_3s n104_5s n104_11s n104_13s n104_14s n104_12s n104_10s n104_17s n104_19s n104_21s n104_22s n104_20s n104_18s n104_16s n104_15s n104_9s n104_8s n104_8g n104_7s n104_24s n104_25s n104_23s n104_6s n104_4s n104_2s n104_0s Try.f104
theorem k109 (a : Int) (h : List Blk) : callH LL 109 [iv a] h = some ⟨.bool false, h, [], []⟩ := by
  refine callH_plain (go (by decide) ?_) rfl rfl
  rw [run109 _ _ _ (by simp)]
  simp (maxSteps := 1000000) (disch := first | omega | decide | assumption | simp [scal])
theorem k111 (a : Int) (h : List Blk) : callH LL 111 [iv a] h = some ⟨.bool false, h, [], []⟩ := by
  refine callH_plain (go (by decide) ?_) rfl rfl
  rw [run111 _ _ _ (by simp)]
  simp (maxSteps := 1000000) (disch := first | omega | decide | assumption | simp [scal])
theorem k108 (a b : Int) (h : List Blk) : callH LL 108 [iv a, iv b] h = some ⟨.bool (decide (a < b)), h, [], []⟩ := by
  refine callH_plain (go (by decide) ?_) rfl rfl
  rw [run108 _ _ _ (by simp)]
  by_cases h1 : a < b <;>
  simp (maxSteps := 1000000) (disch := first | omega | decide | assumption | simp [scal]) [want_some q108_3g2, want_some q108_3g7, h1, k111]
/-- how many, from the first one on, are less -/
def partL (st : Nat → Int) (x : Int) : Nat → Nat → Nat
  | 0, i => i
  | k + 1, i => if st i < x then partL st x k (i + 1) else i
def partS (m : Nat) (st : Nat → Int) (x : Int) : Nat := partL st x m 0
theorem partL_spec {st : Nat → Int} {x : Int} : ∀ k i, i ≤ partL st x k i ∧ partL st x k i ≤ i + k ∧ (∀ j, i ≤ j → j < partL st x k i → st j < x) ∧ (partL st x k i < i + k → ¬ st (partL st x k i) < x) := by
  intro k
  induction k with
  | zero => intro i; simp [partL]; omega
  | succ k ih =>
    intro i
    unfold partL
    split
    · rename_i h
      obtain ⟨h1, h2, h3, h4⟩ := ih (i + 1)
      refine ⟨by omega, by omega, fun j hj hk => ?_, fun hl => h4 (by omega)⟩
      rcases Nat.eq_or_lt_of_le hj with rfl | hj
      · exact h
      · exact h3 j hj hk
    · rename_i h
      exact ⟨by omega, by omega, fun j hj hk => by omega, fun _ => h⟩
/-- numbers that rise -/
def Asc (m : Nat) (st : Nat → Int) : Prop := ∀ i j, i < j → j < m → st i < st j
theorem part_iff {m : Nat} {st : Nat → Int} (ha : Asc m st) (x : Int) {i : Nat} (hi : i < m) : st i < x ↔ i < partS m st x := by
  obtain ⟨h1, h2, h3, h4⟩ := partL_spec (st := st) (x := x) m 0
  unfold partS
  constructor
  · intro h
    rcases Nat.lt_or_ge i (partL st x m 0) with h5 | h5
    · exact h5
    · have h6 := h4 (by omega)
      rcases Nat.eq_or_lt_of_le h5 with h7 | h7
      · rw [h7] at h6; exact absurd h h6
      · have := ha _ _ h7 hi; omega
  · intro h; exact h3 i (Nat.zero_le _) h
theorem part_le {m : Nat} {st : Nat → Int} {x : Int} : partS m st x ≤ m := by
  have := (partL_spec (st := st) (x := x) m 0).2.1
  unfold partS; omega
/-- cells of integers -/
def IvC (cs : List Value) (off n : Nat) (st : Nat → Int) : Prop := ∀ i, i < n → cs[off + i]? = some (iv (st i))
section
variable (off m c : Nat) (cs : List Value) (own : Bool) (st : Nat → Int)
theorem l104 (hc : IvC cs off m st) (ha : Asc m st) (x : Int) (hm : m ≤ 1000) : ∀ k lo hi : Nat, hi - lo ≤ k → lo ≤ partS m st x → partS m st x ≤ hi → hi ≤ m →
    lpB Try.prog LL ⟨104, 54, 1, none⟩ n104_8 n104_9 ⟨[(0, .slice (some ⟨0, off, none⟩) m c), (1, iv x), (6, iv m), (7, iv lo), (8, iv hi)], [.cells cs 1 true own], []⟩ =
      some (.exit 0, ⟨[(0, .slice (some ⟨0, off, none⟩) m c), (1, iv x), (6, iv m), (7, iv (partS m st x))], [.cells cs 1 true own], []⟩) := by
  intro k
  induction k with
  | zero =>
    intro lo hi h1 h2 h3 h4
    obtain rfl : lo = hi := by omega
    obtain rfl : lo = partS m st x := by omega
    rw [lpB_eq]
    simp (maxSteps := 1000000) (disch := first | omega | decide | assumption | simp [scal]) [lenA_sl lk_25, o_convI cv_3_190, o_convI cv_190_3, o_indexAddrS es_25, loadA_eq ia_3, want_some q104_24g4, want_some q104_24g11, want_some q104_24g17]
  | succ k ih =>
    intro lo hi h1 h2 h3 h4
    by_cases hlt : lo < hi
    · obtain ⟨mid, hmid⟩ : ∃ mid, (lo + hi) / 2 = mid := ⟨_, rfl⟩
      have e2 : ((lo : Int) + hi).fdiv 2 = mid := by rw [Int.fdiv_eq_ediv_of_nonneg _ (by decide)]; omega
      have e3 := hc mid (by omega)
      have e4 : mid < m := by omega
      have e5 := part_iff ha x e4
      rw [lpB_eq]
      by_cases hb : st mid < x
      · have this := ih (mid + 1) hi (by omega) (by have := e5.1 hb; omega) h3 h4
        simp only [cast1] at this
        simp (maxSteps := 1000000) (disch := first | omega | decide | assumption | simp [scal]) [lenA_sl lk_25, o_convI cv_3_190, o_convI cv_190_3, o_indexAddrS es_25, loadA_eq ia_3, want_some q104_24g4, want_some q104_24g11, want_some q104_24g17, hlt, e2, e3, e4, k108, hb, this]
      · have hb2 : ¬ mid < partS m st x := fun h => hb (e5.2 h)
        have this := ih lo mid (by omega) h2 (by omega) (by omega)
        simp (maxSteps := 1000000) (disch := first | omega | decide | assumption | simp [scal]) [lenA_sl lk_25, o_convI cv_3_190, o_convI cv_190_3, o_indexAddrS es_25, loadA_eq ia_3, want_some q104_24g4, want_some q104_24g11, want_some q104_24g17, hlt, e2, e3, e4, k108, hb, this]
    · obtain rfl : lo = hi := by omega
      obtain rfl : lo = partS m st x := by omega
      rw [lpB_eq]
      simp (maxSteps := 1000000) (disch := first | omega | decide | assumption | simp [scal]) [lenA_sl lk_25, o_convI cv_3_190, o_convI cv_190_3, o_indexAddrS es_25, loadA_eq ia_3, want_some q104_24g4, want_some q104_24g11, want_some q104_24g17]
theorem c104 (hc : IvC cs off m st) (ha : Asc m st) (x : Int) (hm : m ≤ 1000) : ∃ b, LL.run 104 [.slice (some ⟨0, off, none⟩) m c, iv x] [.cells cs 1 true own] = some ⟨.tuple #[iv (partS m st x), .bool b], [], []⟩ := by
  have hp := part_le (m := m) (st := st) (x := x)
  have this := l104 off m c cs own st hc ha x hm m 0 m (by omega) (Nat.zero_le _) hp (Nat.le_refl _)
  simp only [Int.natCast_zero] at this
  by_cases h1 : partS m st x < m
  · have e3 := hc _ h1
    by_cases h2 : st (partS m st x) = x
    · refine ⟨true, go (by decide) ?_⟩
      rw [run104 _ _ _ (by simp)]
      simp (maxSteps := 1000000) (disch := first | omega | decide | assumption | simp [scal]) [lenA_sl lk_25, o_convI cv_3_190, o_convI cv_190_3, o_indexAddrS es_25, loadA_eq ia_3, want_some q104_24g4, want_some q104_24g11, want_some q104_24g17, this, h1, e3, h2]
    · refine ⟨false, go (by decide) ?_⟩
      rw [run104 _ _ _ (by simp)]
      simp (maxSteps := 1000000) (disch := first | omega | decide | assumption | simp [scal]) [lenA_sl lk_25, o_convI cv_3_190, o_convI cv_190_3, o_indexAddrS es_25, loadA_eq ia_3, want_some q104_24g4, want_some q104_24g11, want_some q104_24g17, this, h1, e3, h2, k109]
  · refine ⟨false, go (by decide) ?_⟩
    rw [run104 _ _ _ (by simp)]
    simp (maxSteps := 1000000) (disch := first | omega | decide | assumption | simp [scal]) [lenA_sl lk_25, o_convI cv_3_190, o_convI cv_190_3, o_indexAddrS es_25, loadA_eq ia_3, want_some q104_24g4, want_some q104_24g11, want_some q104_24g17, this, h1]
end
end Go.Proofs.Ytiafgimgcbmgaaa.bl

namespace Go.Proofs.Ytiafgimgcbmgaaa.bl
open Go.GE
set_option linter.unusedVariables false
set_option linter.unusedSimpArgs false
set_option maxRecDepth 100000
set_option maxHeartbeats 4000000
attribute [local simp] runOps_nil runOps_cons runOpsF_nil runOpsF_cons fstS_some fstF_some opStep_eq want_none oStep_true oStep_false fin_pure fin_read fin_alloc fin_write storeB wrN cellV addWr o_move o_assign o_pick o_alloc o_box o_load o_store o_nilCheck o_bin o_un o_extract o_callV o_callB o_callI callV_f callV_y callV_fc o_makeFunc partsA Instr.fill builtin_len builtin_max2 bin_add bin_sub bin_mul bin_quo bin_rem bin_lss bin_leq bin_gtr bin_geq bin_eql bin_neq un_neg un_not bin_shr bin_shl wrap_u64_id opd opds optAll putO nbeq nblt constOk isC ops sub cl cr co bodyOf thenS_normal thenS_ret thenS_exit thenS_goto afterN_normal afterN_ret afterN_exit afterN_goto condS_true condS_false blockS_normal blockS_ret blockS_exit blockS_goto headS normS normK_eq fixS_nil fixS_cons fix1 fixV emptyB keepO_nil keepO_cons roundC_normal roundC_exit roundC_ret roundC_goto sweep_eq sweepD rnm pickR pickW rootsB ptrT renT ptrFn renFn ptrB_flat ptrB_non renB_flat renB_non plainS_some drawS_some fpsOk disj unord range' dropTo enumT undef wrap_i64_id Value.cells mkCells ptrTo scal cellsAt rdN endS_ret resultsA Option.bind_some tupV finish reachN dep ptrL_eq ptrL renL_eq renL ptrV_bool ptrV_int ptrV_string ptrV_nilFunc ptrV_nilIface ptrV_nilPtr ptrV_ptr ptrV_nilSl ptrV_sl ptrV_iface ptrV_agg ptrV_tuple ptrV_func renV_bool renV_int renV_string renV_nilFunc renV_nilIface renV_nilPtr renV_ptr renV_nilSl renV_sl renV_iface renV_agg renV_tuple renV_func gotoS_goto gotoS_normal gotoS_exit gotoS_ret skip_seq sliceE bnd bndHi intOf optOpd keepT_nil keepT_cons keepC_t keepC_f lk_nil lk_cons lkC_t lkC_f has_nil has_cons hasC_t hasC_f rep_nil rep_cons repC_t repC_f put_eq putC_t putC_f mem_nil mem_cons memC_t memC_f idx_nil idx_cons idxC_t idxC_f reach_nil reach_cons reachC_t reachC_f
attribute [local simp] n84_1s n84_3s n84_9s n84_11s n84_12s n84_10s n84_8s n84_14s n84_13s n84_7s n84_6s n84_6g n84_5s n84_16s n84_17s n84_15s n84_4s n84_2s n84_0s Try.f84 n88_1s n88_3s n88_5s n88_6s n88_4s n88_2s n88_0s Try.f88
/-- a sheet with its steps -/
abbrev ptV (r f : Int) (b off n c b2 off2 m c2 : Nat) : Value := .agg #[iv r, iv f, .slice (some ⟨b, off, none⟩) n c, .slice (some ⟨b2, off2, none⟩) m c2]
abbrev stV (b off m c : Nat) : Value := .slice (some ⟨b, off, none⟩) m c
section
variable (off m c : Nat) (cs : List Value) (own : Bool) (st : Nat → Int)
theorem l84 (hc : IvC cs off m st) (hm : m ≤ 1000) (x : Int) : ∀ k i : Nat, i + k = m →
    lpB Try.prog LL ⟨84, 21, 1, none⟩ n84_6 n84_7 ⟨[(0, stV 0 off m c), (1, iv x), (5, iv i)], [.cells cs 1 true own], []⟩ =
      some (.exit 0, ⟨[(5, iv (partL st x k i))], [.cells cs 1 true own], []⟩) := by
  intro k
  induction k with
  | zero =>
    intro i hi
    obtain rfl : i = m := by omega
    rw [lpB_eq]
    simp (maxSteps := 1000000) (disch := first | omega | decide | assumption | simp [scal]) [lenA_sl lk_25, o_indexAddrS es_25, loadA_eq ia_3, want_some q84_9g4, partL]
  | succ k ih =>
    intro i hi
    have e1 : i < m := by omega
    have e2 := hc i e1
    have this := ih (i + 1) (by omega)
    simp only [cast1] at this
    rw [lpB_eq]
    by_cases h : st i < x
    · simp (maxSteps := 1000000) (disch := first | omega | decide | assumption | simp [scal]) [lenA_sl lk_25, o_indexAddrS es_25, loadA_eq ia_3, want_some q84_9g4, partL, e1, e2, h, this]
    · simp (maxSteps := 1000000) (disch := first | omega | decide | assumption | simp [scal]) [lenA_sl lk_25, o_indexAddrS es_25, loadA_eq ia_3, want_some q84_9g4, partL, e1, e2, h]
theorem c84 (hc : IvC cs off m st) (hm : m ≤ 1000) (x : Int) : LL.run 84 [stV 0 off m c, iv x] [.cells cs 1 true own] = some ⟨iv (partS m st x), [], []⟩ := by
  refine go (by decide) ?_
  rw [run84 _ _ _ (by simp)]
  have this := l84 off m c cs own st hc hm x m 0 (by omega)
  simp only [Int.natCast_zero] at this
  simp (maxSteps := 1000000) (disch := first | omega | decide | assumption | simp [scal]) [lenA_sl lk_25, o_indexAddrS es_25, loadA_eq ia_3, want_some q84_9g4, this, partS]
end
section
variable (r f : Int) (b1 off n c b2 off2 m c2 : Nat) {cs cs2 : List Value} {own own2 : Bool} {st : Nat → Int} {h : List Blk}
theorem k84 (hb : h[b2]? = some (.cells cs2 1 true own2)) (hc : IvC cs2 off2 m st) (hm : m ≤ 1000) (x : Int) : callH LL 84 [stV b2 off2 m c2, iv x] h = some ⟨iv (partS m st x), h, [b2], []⟩ :=
  callH_1 rfl hb noIdB_flat (args' := [stV 0 off2 m c2, iv x]) (by simp [renV, dep, optAll, idx, nbeq]) (c84 off2 m c2 cs2 own2 st hc hm x) fun _ => rfl
theorem k104 (hb : h[b2]? = some (.cells cs2 1 true own2)) (hc : IvC cs2 off2 m st) (ha : Asc m st) (hm : m ≤ 1000) (x : Int) : ∃ q, callH LL 104 [stV b2 off2 m c2, iv x] h = some ⟨.tuple #[iv (partS m st x), .bool q], h, [b2], []⟩ := by
  obtain ⟨q, hq⟩ := c104 off2 m c2 cs2 own2 st hc ha x hm
  exact ⟨q, callH_1 rfl hb noIdB_flat (args' := [stV 0 off2 m c2, iv x]) (by simp [renV, dep, optAll, idx, nbeq]) hq fun _ => rfl⟩
theorem k88 (hb : h[b1]? = some (.cells cs 3 true own)) (hb2 : h[b2]? = some (.cells cs2 1 true own2)) (hne : b1 ≠ b2) (hc : IvC cs2 off2 m st) (ha : Asc m st) (hm : m ≤ 1000) (x : Int) :
    callH LL 88 [ptV r f b1 off n c b2 off2 m c2, iv x] h = some ⟨iv (partS m st x), h, [b1, b2], []⟩ := by
  obtain ⟨q, hq⟩ := k104 1 off2 m c2 (h := [.cells cs 3 true own, .cells cs2 1 true own2, .cells [iv r, iv f, .slice (some ⟨0, off, none⟩) n c, .slice (some ⟨1, off2, none⟩) m c2] 1 false true]) (cs2 := cs2) rfl hc ha hm x
  refine callH_2 rfl hb hb2 hne noIdB_flat noIdB_flat (args' := [ptV r f 0 off n c 1 off2 m c2, iv x]) (by simp [renV, dep, optAll, idx, nbeq, hne, hne.symm]) (go (by decide) ?_) fun _ => rfl
  rw [run88 _ _ _ (by simp)]
  simp (maxSteps := 1000000) (disch := first | omega | decide | assumption | simp [scal]) [o_fieldAddr fa_115_1 (by decide), loadA_eq ia_25, hq]
end
end Go.Proofs.Ytiafgimgcbmgaaa.bl

namespace Go.Proofs.Ytiafgimgcbmgaaa.bl
open Go.GE
set_option linter.unusedVariables false
set_option linter.unusedSimpArgs false
set_option maxRecDepth 100000
set_option maxHeartbeats 4000000
attribute [local simp] runOps_nil runOps_cons runOpsF_nil runOpsF_cons fstS_some fstF_some opStep_eq want_none oStep_true oStep_false fin_pure fin_read fin_alloc fin_write storeB wrN cellV addWr o_move o_assign o_pick o_alloc o_box o_load o_store o_nilCheck o_bin o_un o_extract o_callV o_callB o_callI callV_f callV_y callV_fc o_makeFunc partsA Instr.fill builtin_len builtin_max2 bin_add bin_sub bin_mul bin_quo bin_rem bin_lss bin_leq bin_gtr bin_geq bin_eql bin_neq un_neg un_not bin_shr bin_shl wrap_u64_id opd opds optAll putO nbeq nblt constOk isC ops sub cl cr co bodyOf thenS_normal thenS_ret thenS_exit thenS_goto afterN_normal afterN_ret afterN_exit afterN_goto condS_true condS_false blockS_normal blockS_ret blockS_exit blockS_goto headS normS normK_eq fixS_nil fixS_cons fix1 fixV emptyB keepO_nil keepO_cons roundC_normal roundC_exit roundC_ret roundC_goto sweep_eq sweepD rnm pickR pickW rootsB ptrT renT ptrFn renFn ptrB_flat ptrB_non renB_flat renB_non plainS_some drawS_some fpsOk disj unord range' dropTo enumT undef wrap_i64_id Value.cells mkCells ptrTo scal cellsAt rdN endS_ret resultsA Option.bind_some tupV finish reachN dep ptrL_eq ptrL renL_eq renL ptrV_bool ptrV_int ptrV_string ptrV_nilFunc ptrV_nilIface ptrV_nilPtr ptrV_ptr ptrV_nilSl ptrV_sl ptrV_iface ptrV_agg ptrV_tuple ptrV_func renV_bool renV_int renV_string renV_nilFunc renV_nilIface renV_nilPtr renV_ptr renV_nilSl renV_sl renV_iface renV_agg renV_tuple renV_func gotoS_goto gotoS_normal gotoS_exit gotoS_ret skip_seq sliceE bnd bndHi intOf optOpd keepT_nil keepT_cons keepC_t keepC_f lk_nil lk_cons lkC_t lkC_f has_nil has_cons hasC_t hasC_f rep_nil rep_cons repC_t repC_f put_eq putC_t putC_f mem_nil mem_cons memC_t memC_f idx_nil idx_cons idxC_t idxC_f reach_nil reach_cons reachC_t reachC_f
attribute [local simp] n55_1s n55_4s n55_9s n55_11s n55_12s n55_10s n55_8s n55_16s n55_21s n55_23s n55_24s n55_22s n55_20s n55_28s n55_30s n55_33s n55_34s n55_32s n55_35s n55_31s n55_29s n55_27s n55_26s n55_36s n55_25s n55_19s n55_18s n55_18g n55_17s n55_15s n55_14s n55_37s n55_13s n55_7s n55_6s n55_6g n55_5s n55_3s n55_39s n55_40s n55_38s n55_2s n55_0s Try.f55
/-- a valid sheet -/
structure Sht (r f : Int) (n : Nat) (l : Nat → Ab) : Prop where
  dr : Dr r f
  n1 : 1 ≤ n
  n40 : n ≤ 40
  ok : ∀ i, i < n → OkA (l i)
  asc : ∀ i j, i < j → j < n → (l i).h < (l j).h
theorem chkL_zero {l : Nat → Ab} : ∀ k i last, chkL l k i last = 0 → (∀ j, i ≤ j → j < i + k → OkA (l j)) ∧ (0 < k → last < (l i).h) ∧ ∀ j, i ≤ j → j + 1 < i + k → (l j).h < (l (j + 1)).h := by
  intro k
  induction k with
  | zero => intro i last _; exact ⟨fun j h1 h2 => by omega, fun h => by omega, fun j h1 h2 => by omega⟩
  | succ k ih =>
    intro i last h
    unfold chkL at h
    split at h
    · simp at h
    · rename_i h1
      split at h
      · simp at h
      · rename_i h2
        obtain ⟨q1, q2, q3⟩ := ih (i + 1) _ h
        refine ⟨fun j a b => ?_, fun _ => by omega, fun j a b => ?_⟩
        · rcases Nat.eq_or_lt_of_le a with rfl | a
          · exact (okA_iff _).1 (by simpa using h1)
          · exact q1 j (by omega) (by omega)
        · rcases Nat.eq_or_lt_of_le a with rfl | a
          · exact q2 (by omega)
          · exact q3 j (by omega) (by omega)
theorem chkS_zero {r f : Int} {n : Nat} {l : Nat → Ab} (h : chkS r f n l = 0) : Sht r f n l := by
  unfold chkS at h
  split at h
  · simp at h
  · rename_i h1
    split at h
    · simp at h
    · rename_i h2
      split at h
      · simp at h
      · rename_i h3
        obtain ⟨q1, q2, q3⟩ := chkL_zero _ _ _ h
        simp only [Bool.and_eq_true, decide_eq_true_eq, Bool.not_eq_false] at h1
        refine ⟨⟨h1.1.1, h1.1.2, h1.2.1, h1.2.2⟩, by omega, by omega, fun i hi => q1 i (by omega) (by omega), ?_⟩
        intro i j hij
        induction j with
        | zero => omega
        | succ j ih =>
          intro hj
          have := q3 j (by omega) (by omega)
          rcases Nat.lt_succ_iff_lt_or_eq.1 hij with h | rfl
          · have := ih h (by omega); omega
          · exact this
/-- does one of some numbers serve? -/
def anyF (P : Nat → Bool) : Nat → Nat → Bool
  | 0, _ => false
  | k + 1, j => P j || anyF P k (j + 1)
theorem anyF_iff {P : Nat → Bool} : ∀ k j, anyF P k j = true ↔ ∃ i, j ≤ i ∧ i < j + k ∧ P i = true := by
  intro k
  induction k with
  | zero => intro j; simp [anyF]; intro i h1 h2; omega
  | succ k ih =>
    intro j
    simp only [anyF, Bool.or_eq_true, ih]
    constructor
    · rintro (h | ⟨i, h1, h2, h3⟩)
      · exact ⟨j, by omega, by omega, h⟩
      · exact ⟨i, by omega, by omega, h3⟩
    · rintro ⟨i, h1, h2, h3⟩
      rcases Nat.eq_or_lt_of_le h1 with rfl | h1
      · exact .inl h3
      · exact .inr ⟨i, by omega, by omega, h3⟩
/-- two absolutes of one part clash; one can be left out -/
def badB (r f : Int) (l : Nat → Ab) (m : Nat) (st : Nat → Int) (out : Int) (i k : Nat) : Bool :=
  (((!decide ((i : Int) = out)) && !decide ((k : Int) = out)) && decide (partS m st (l i).h = partS m st (l k).h)) && needS r f (l i) (l k)
def clashS (r f : Int) (n : Nat) (l : Nat → Ab) (m : Nat) (st : Nat → Int) (out : Int) : Bool := anyF (fun i => anyF (badB r f l m st out i) (n - (i + 1)) (i + 1)) n 0
section
variable (r f : Int) (off n c off2 m c2 : Nat) (cs cs2 : List Value) (own own2 : Bool) (l : Nat → Ab) (st : Nat → Int) (out : Int)
theorem l55i (S : Sht r f n l) (hc : AbC cs off n l) (hc2 : IvC cs2 off2 m st) (hm : m ≤ 1000) (i : Nat) : ∀ k j : Nat, i < j → j + k = n →
    lpB Try.prog LL ⟨55, 62, 2, none⟩ n55_18 n55_19 ⟨[(1, stV 1 off2 m c2), (2, iv out), (3, .pointer (some ⟨2, 0, none⟩)), (7, iv i), (8, iv j)], [.cells cs 3 true own, .cells cs2 1 true own2, shB r f 0 off n c], []⟩ =
      if anyF (badB r f l m st out i) k j then some (.ret, ⟨[(6, .bool true)], [.cells cs 3 true own, .cells cs2 1 true own2], []⟩)
      else some (.exit 2, ⟨[(1, stV 1 off2 m c2), (2, iv out), (3, .pointer (some ⟨2, 0, none⟩)), (7, iv i)], [.cells cs 3 true own, .cells cs2 1 true own2, shB r f 0 off n c], []⟩) := by
  have hn := S.n40
  intro k
  induction k with
  | zero =>
    intro j hij hj
    obtain rfl : j = n := by omega
    rw [lpB_eq]
    simp (maxSteps := 1000000) (disch := first | omega | decide | assumption | simp [scal]) [o_fieldAddr fa_29_2 (by decide), loadA_eq ia_27, lenA_sl lk_27, o_indexAddrS es_27, loadA_eq ia_108, za_108, sz_108, o_fieldAddr fa_108_0 (by decide), loadA_eq ia_3, loadA_eq ia_29, want_some q55_30g3, want_some q55_30g8, want_some q55_30g19, anyF]
  | succ k ih =>
    intro j hij hj
    have e1 : j < n := by omega
    have e0 : i < n := by omega
    have this := ih (j + 1) (by omega) (by omega)
    simp only [cast1] at this
    obtain ⟨p2, p3, p4⟩ := hc j e1
    obtain ⟨q2, q3, q4⟩ := hc i e0
    have a1 := fun bx => k84 1 off2 m c2 (h := .cells cs 3 true own :: .cells cs2 1 true own2 :: bx) (cs2 := cs2) (own2 := own2) (st := st) rfl hc2 hm
    have a2 := fun bx => k59 r f 0 off n c (h := .cells cs 3 true own :: bx) (cs := cs) (own := own) S.dr (l i) (S.ok i e0) (l j) (S.ok j e1) (by have := S.asc i j hij e1; omega) rfl
    rw [lpB_eq]
    have hb : badB r f l m st out i j = ((((!decide ((i : Int) = out)) && !decide ((j : Int) = out)) && decide (partS m st (l i).h = partS m st (l j).h)) && needS r f (l i) (l j)) := rfl
    simp only [anyF]
    by_cases w1 : (i : Int) = out
    · rw [decide_eq_true w1] at hb
      simp (maxSteps := 1000000) (disch := first | omega | decide | assumption | simp [scal]) [o_fieldAddr fa_29_2 (by decide), loadA_eq ia_27, lenA_sl lk_27, o_indexAddrS es_27, loadA_eq ia_108, za_108, sz_108, o_fieldAddr fa_108_0 (by decide), loadA_eq ia_3, loadA_eq ia_29, want_some q55_30g3, want_some q55_30g8, want_some q55_30g19, e0, e1, p2, p3, p4, q2, q3, q4, eq_true w1, hb, this]
    by_cases w2 : (j : Int) = out
    · rw [decide_eq_false w1, decide_eq_true w2] at hb
      simp (maxSteps := 1000000) (disch := first | omega | decide | assumption | simp [scal]) [o_fieldAddr fa_29_2 (by decide), loadA_eq ia_27, lenA_sl lk_27, o_indexAddrS es_27, loadA_eq ia_108, za_108, sz_108, o_fieldAddr fa_108_0 (by decide), loadA_eq ia_3, loadA_eq ia_29, want_some q55_30g3, want_some q55_30g8, want_some q55_30g19, e0, e1, p2, p3, p4, q2, q3, q4, w1, eq_true w2, hb, this]
    by_cases w3 : partS m st (l i).h = partS m st (l j).h
    · have w3' : (partS m st (l i).h : Int) = partS m st (l j).h := by rw [w3]
      cases w4 : needS r f (l i) (l j)
      · rw [decide_eq_false w1, decide_eq_false w2, decide_eq_true w3, w4] at hb
        simp (maxSteps := 1000000) (disch := first | omega | decide | assumption | simp [scal]) [o_fieldAddr fa_29_2 (by decide), loadA_eq ia_27, lenA_sl lk_27, o_indexAddrS es_27, loadA_eq ia_108, za_108, sz_108, o_fieldAddr fa_108_0 (by decide), loadA_eq ia_3, loadA_eq ia_29, want_some q55_30g3, want_some q55_30g8, want_some q55_30g19, e0, e1, p2, p3, p4, q2, q3, q4, w1, w2, eq_true w3', w4, a1, a2, hb, this]
      · rw [decide_eq_false w1, decide_eq_false w2, decide_eq_true w3, w4] at hb
        simp (maxSteps := 1000000) (disch := first | omega | decide | assumption | simp [scal]) [o_fieldAddr fa_29_2 (by decide), loadA_eq ia_27, lenA_sl lk_27, o_indexAddrS es_27, loadA_eq ia_108, za_108, sz_108, o_fieldAddr fa_108_0 (by decide), loadA_eq ia_3, loadA_eq ia_29, want_some q55_30g3, want_some q55_30g8, want_some q55_30g19, e0, e1, p2, p3, p4, q2, q3, q4, w1, w2, eq_true w3', w4, a1, a2, hb]
    · have w3' : ¬ (partS m st (l i).h : Int) = partS m st (l j).h := by omega
      rw [decide_eq_false w1, decide_eq_false w2, decide_eq_false w3] at hb
      simp (maxSteps := 1000000) (disch := first | omega | decide | assumption | simp [scal]) [o_fieldAddr fa_29_2 (by decide), loadA_eq ia_27, lenA_sl lk_27, o_indexAddrS es_27, loadA_eq ia_108, za_108, sz_108, o_fieldAddr fa_108_0 (by decide), loadA_eq ia_3, loadA_eq ia_29, want_some q55_30g3, want_some q55_30g8, want_some q55_30g19, e0, e1, p2, p3, p4, q2, q3, q4, w1, w2, w3', a1, hb, this]
theorem l55o (S : Sht r f n l) (hc : AbC cs off n l) (hc2 : IvC cs2 off2 m st) (hm : m ≤ 1000) : ∀ k i : Nat, i + k = n →
    lpB Try.prog LL ⟨55, 62, 2, none⟩ n55_6 n55_7 ⟨[(1, stV 1 off2 m c2), (2, iv out), (3, .pointer (some ⟨2, 0, none⟩)), (7, iv i)], [.cells cs 3 true own, .cells cs2 1 true own2, shB r f 0 off n c], []⟩ =
      if anyF (fun i => anyF (badB r f l m st out i) (n - (i + 1)) (i + 1)) k i then some (.ret, ⟨[(6, .bool true)], [.cells cs 3 true own, .cells cs2 1 true own2], []⟩)
      else some (.exit 0, ⟨[], [.cells cs 3 true own, .cells cs2 1 true own2], []⟩) := by
  have hn := S.n40
  intro k
  induction k with
  | zero =>
    intro i hi
    obtain rfl : i = n := by omega
    rw [lpB_eq]
    simp (maxSteps := 1000000) (disch := first | omega | decide | assumption | simp [scal]) [o_fieldAddr fa_29_2 (by decide), loadA_eq ia_27, lenA_sl lk_27, o_indexAddrS es_27, loadA_eq ia_108, za_108, sz_108, o_fieldAddr fa_108_0 (by decide), loadA_eq ia_3, loadA_eq ia_29, want_some q55_30g3, want_some q55_30g8, want_some q55_30g19, anyF]
  | succ k ih =>
    intro i hi
    have e0 : i < n := by omega
    have this := ih (i + 1) (by omega)
    have a1 := l55i r f off n c off2 m c2 cs cs2 own own2 l st out S hc hc2 hm i (n - (i + 1)) (i + 1) (by omega) (by omega)
    simp only [cast1] at this a1
    rw [lpB_eq]
    simp only [anyF]
    rcases Bool.eq_false_or_eq_true (anyF (badB r f l m st out i) (n - (i + 1)) (i + 1)) with w | w
    · rw [w] at a1
      simp only [if_true] at a1
      simp (maxSteps := 1000000) (disch := first | omega | decide | assumption | simp [scal]) [o_fieldAddr fa_29_2 (by decide), loadA_eq ia_27, lenA_sl lk_27, o_indexAddrS es_27, loadA_eq ia_108, za_108, sz_108, o_fieldAddr fa_108_0 (by decide), loadA_eq ia_3, loadA_eq ia_29, want_some q55_30g3, want_some q55_30g8, want_some q55_30g19, e0, a1, w]
    · rw [w] at a1
      simp only [Bool.false_eq_true, if_false] at a1
      simp (maxSteps := 1000000) (disch := first | omega | decide | assumption | simp [scal]) [o_fieldAddr fa_29_2 (by decide), loadA_eq ia_27, lenA_sl lk_27, o_indexAddrS es_27, loadA_eq ia_108, za_108, sz_108, o_fieldAddr fa_108_0 (by decide), loadA_eq ia_3, loadA_eq ia_29, want_some q55_30g3, want_some q55_30g8, want_some q55_30g19, e0, a1, w, this]
theorem c55 (S : Sht r f n l) (hc : AbC cs off n l) (hc2 : IvC cs2 off2 m st) (hm : m ≤ 1000) : LL.run 55 [shV r f 0 off n c, stV 1 off2 m c2, iv out] [.cells cs 3 true own, .cells cs2 1 true own2] = some ⟨.bool (clashS r f n l m st out), [], []⟩ := by
  refine go (by decide) ?_
  rw [run55 _ _ _ (by simp)]
  have this := l55o r f off n c off2 m c2 cs cs2 own own2 l st out S hc hc2 hm n 0 (by omega)
  simp only [Int.natCast_zero] at this
  unfold clashS
  cases w : anyF (fun i => anyF (badB r f l m st out i) (n - (i + 1)) (i + 1)) n 0
  · rw [w] at this
    simp only [Bool.false_eq_true, if_false] at this
    simp (maxSteps := 1000000) (disch := first | omega | decide | assumption | simp [scal]) [o_fieldAddr fa_29_2 (by decide), loadA_eq ia_27, lenA_sl lk_27, o_indexAddrS es_27, loadA_eq ia_108, za_108, sz_108, o_fieldAddr fa_108_0 (by decide), loadA_eq ia_3, loadA_eq ia_29, want_some q55_30g3, want_some q55_30g8, want_some q55_30g19, this]
  · rw [w] at this
    simp only [if_true] at this
    simp (maxSteps := 1000000) (disch := first | omega | decide | assumption | simp [scal]) [o_fieldAddr fa_29_2 (by decide), loadA_eq ia_27, lenA_sl lk_27, o_indexAddrS es_27, loadA_eq ia_108, za_108, sz_108, o_fieldAddr fa_108_0 (by decide), loadA_eq ia_3, loadA_eq ia_29, want_some q55_30g3, want_some q55_30g8, want_some q55_30g19, this]
end
section
variable (r f : Int) (b1 off n c b2 off2 m c2 : Nat) {cs cs2 : List Value} {own own2 : Bool} {l : Nat → Ab} {st : Nat → Int} (out : Int) {h : List Blk}
theorem k55 (S : Sht r f n l) (hb : h[b1]? = some (.cells cs 3 true own)) (hb2 : h[b2]? = some (.cells cs2 1 true own2)) (hne : b1 ≠ b2) (hc : AbC cs off n l) (hc2 : IvC cs2 off2 m st) (hm : m ≤ 1000) :
    callH LL 55 [shV r f b1 off n c, stV b2 off2 m c2, iv out] h = some ⟨.bool (clashS r f n l m st out), h, [b1, b2], []⟩ :=
  callH_2 rfl hb hb2 hne noIdB_flat noIdB_flat (args' := [shV r f 0 off n c, stV 1 off2 m c2, iv out]) (by simp [renV, dep, optAll, idx, nbeq, hne, hne.symm]) (c55 r f off n c off2 m c2 cs cs2 own own2 l st out S hc hc2 hm) fun _ => rfl
end
end Go.Proofs.Ytiafgimgcbmgaaa.bl

namespace Go.Proofs.Ytiafgimgcbmgaaa.bl
open Go.GE
set_option linter.unusedVariables false
set_option linter.unusedSimpArgs false
set_option maxRecDepth 100000
set_option maxHeartbeats 4000000
attribute [local simp] runOps_nil runOps_cons runOpsF_nil runOpsF_cons fstS_some fstF_some opStep_eq want_none oStep_true oStep_false fin_pure fin_read fin_alloc fin_write storeB wrN cellV addWr o_move o_assign o_pick o_alloc o_box o_load o_store o_nilCheck o_bin o_un o_extract o_callV o_callB o_callI callV_f callV_y callV_fc o_makeFunc partsA Instr.fill builtin_len builtin_max2 bin_add bin_sub bin_mul bin_quo bin_rem bin_lss bin_leq bin_gtr bin_geq bin_eql bin_neq un_neg un_not bin_shr bin_shl wrap_u64_id opd opds optAll putO nbeq nblt constOk isC ops sub cl cr co bodyOf thenS_normal thenS_ret thenS_exit thenS_goto afterN_normal afterN_ret afterN_exit afterN_goto condS_true condS_false blockS_normal blockS_ret blockS_exit blockS_goto headS normS normK_eq fixS_nil fixS_cons fix1 fixV emptyB keepO_nil keepO_cons roundC_normal roundC_exit roundC_ret roundC_goto sweep_eq sweepD rnm pickR pickW rootsB ptrT renT ptrFn renFn ptrB_flat ptrB_non renB_flat renB_non plainS_some drawS_some fpsOk disj unord range' dropTo enumT undef wrap_i64_id Value.cells mkCells ptrTo scal cellsAt rdN endS_ret resultsA Option.bind_some tupV finish reachN dep ptrL_eq ptrL renL_eq renL ptrV_bool ptrV_int ptrV_string ptrV_nilFunc ptrV_nilIface ptrV_nilPtr ptrV_ptr ptrV_nilSl ptrV_sl ptrV_iface ptrV_agg ptrV_tuple ptrV_func renV_bool renV_int renV_string renV_nilFunc renV_nilIface renV_nilPtr renV_ptr renV_nilSl renV_sl renV_iface renV_agg renV_tuple renV_func gotoS_goto gotoS_normal gotoS_exit gotoS_ret skip_seq sliceE bnd bndHi intOf optOpd keepT_nil keepT_cons keepC_t keepC_f lk_nil lk_cons lkC_t lkC_f has_nil has_cons hasC_t hasC_f rep_nil rep_cons repC_t repC_f put_eq putC_t putC_f mem_nil mem_cons memC_t memC_f idx_nil idx_cons idxC_t idxC_f reach_nil reach_cons reachC_t reachC_f
attribute [local simp] n73_1s n73_4s n73_8s n73_11s n73_12s n73_10s n73_16s n73_18s n73_22s n73_23s n73_21s n73_26s n73_29s n73_30s n73_28s n73_31s n73_27s n73_25s n73_24s n73_19s n73_17s n73_15s n73_14s n73_32s n73_13s n73_9s n73_7s n73_6s n73_6g n73_5s n73_3s n73_34s n73_35s n73_33s n73_2s n73_0s Try.f73
abbrev abB (a : Ab) : Blk := .cells [iv a.h, iv a.lo, iv a.hi] 1 true true
abbrev c1 (n : Int) : Blk := .cells [iv n] 1 true true
abbrev b1 (x : Bool) : Blk := .cells [.bool x] 1 true true
abbrev ptB (r f : Int) (b off n c b2 off2 m c2 : Nat) : Blk := .cells [iv r, iv f, .slice (some ⟨b, off, none⟩) n c, .slice (some ⟨b2, off2, none⟩) m c2] 1 false true
abbrev pp (b : Nat) : Value := .pointer (some ⟨b, 0, none⟩)
noncomputable def lp73 (a b d e g : Nat) : ALoop := ⟨.ready, none, 73, [(6, pp a), (5, pp b), (2, pp d), (3, pp e), (4, pp g)], 47, #[24, 25], n73_21, n73_24⟩
/-- do two clash, as they are met in a round? -/
def hitB (r f out : Int) (a d : Ab) (i k : Nat) : Bool := ((decide ((i : Int) < k) && !decide ((i : Int) = out)) && !decide ((k : Int) = out)) && needS r f a d
section
variable (r f : Int) (off n c off2 m c2 : Nat) (cs cs2 : List Value) (own own2 : Bool) (out : Int)
theorem r73 (D : Dr r f) (a d : Ab) (A : OkA a) (B : OkA d) (i k : Nat) (res : Bool) :
    LL.rnd 0 [iv i, abV a] [.loop (lp73 1 2 3 6 7), abB d, c1 k, ptB r f 4 off n c 5 off2 m c2, .cells cs 3 true own, .cells cs2 1 true own2, c1 out, b1 res] =
      if hitB r f out a d i k then some ⟨.bool false, [], [(0, .loop { lp73 1 2 3 6 7 with state := .done, pending := some .ret }), (7, b1 false)]⟩
      else some ⟨.bool true, [], [(0, .loop (lp73 1 2 3 6 7))]⟩ := by
  have hk := fun bx1 bx2 bx3 bx4 bx => k58 r f 4 off n c (h := bx1 :: bx2 :: bx3 :: bx4 :: .cells cs 3 true own :: bx) (cs := cs) (own := own) D a A d B rfl
  obtain ⟨dh, dl, du⟩ := d
  obtain ⟨ah, al, au⟩ := a
  rw [show LL = L Try.prog (wk.wtab.keep kpT) from rfl, L_rnd_eq]
  have e1 : codeB Try.prog LL ⟨73, 47, 8, some 0⟩ n73_21 ⟨[(25, abV ⟨ah, al, au⟩), (24, iv i), (6, pp 1), (5, pp 2), (2, pp 3), (3, pp 6), (4, pp 7)], [.loop (lp73 1 2 3 6 7), abB ⟨dh, dl, du⟩, c1 k, ptB r f 4 off n c 5 off2 m c2, .cells cs 3 true own, .cells cs2 1 true own2, c1 out, b1 res], []⟩ =
      some (.normal, ⟨[(8, pp 8), (7, iv i), (25, abV ⟨ah, al, au⟩), (24, iv i), (6, pp 1), (5, pp 2), (2, pp 3), (3, pp 6), (4, pp 7)], [.loop (lp73 1 2 3 6 7), abB ⟨dh, dl, du⟩, c1 k, ptB r f 4 off n c 5 off2 m c2, .cells cs 3 true own, .cells cs2 1 true own2, c1 out, b1 res, abB ⟨ah, al, au⟩], []⟩) := by
    simp (maxSteps := 1000000) (disch := first | omega | decide | assumption | simp [scal]) [za_4, o_fieldAddr fa_115_0 (by decide), o_fieldAddr fa_24_2 (by decide), loadA_eq ia_22, lenA_sl lk_22, o_indexAddrS es_22, loadA_eq ia_59, za_3, za_59, sz_3, sz_59, loadA_eq ia_115, o_fieldAddr fa_59_0 (by decide), loadA_eq ia_3, loadA_eq ia_24, sz_4, loadA_eq ia_4, want_some q73_26g3, want_some q73_26g8, want_some q73_26g13]
  have e2 : codeB Try.prog LL ⟨73, 47, 8, some 0⟩ n73_24 ⟨[(8, pp 8), (7, iv i), (25, abV ⟨ah, al, au⟩), (24, iv i), (6, pp 1), (5, pp 2), (2, pp 3), (3, pp 6), (4, pp 7)], [.loop { lp73 1 2 3 6 7 with state := .busy }, abB ⟨dh, dl, du⟩, c1 k, ptB r f 4 off n c 5 off2 m c2, .cells cs 3 true own, .cells cs2 1 true own2, c1 out, b1 res, abB ⟨ah, al, au⟩], [0]⟩ =
      if hitB r f out ⟨ah, al, au⟩ ⟨dh, dl, du⟩ i k then some (.ret, ⟨[(4, pp 7)], [.loop { lp73 1 2 3 6 7 with state := .busy }, abB ⟨dh, dl, du⟩, c1 k, ptB r f 4 off n c 5 off2 m c2, .cells cs 3 true own, .cells cs2 1 true own2, c1 out, b1 false], [0, 7]⟩)
      else some (.normal, ⟨[(8, pp 8), (7, iv i), (25, abV ⟨ah, al, au⟩), (24, iv i), (6, pp 1), (5, pp 2), (2, pp 3), (3, pp 6), (4, pp 7)], [.loop { lp73 1 2 3 6 7 with state := .busy }, abB ⟨dh, dl, du⟩, c1 k, ptB r f 4 off n c 5 off2 m c2, .cells cs 3 true own, .cells cs2 1 true own2, c1 out, b1 res, abB ⟨ah, al, au⟩], [0]⟩) := by
    have hb : hitB r f out ⟨ah, al, au⟩ ⟨dh, dl, du⟩ i k = (((decide ((i : Int) < k) && !decide ((i : Int) = out)) && !decide ((k : Int) = out)) && needS r f ⟨ah, al, au⟩ ⟨dh, dl, du⟩) := rfl
    by_cases w0 : (i : Int) < k
    · by_cases w1 : (i : Int) = out
      · rw [decide_eq_true w0, decide_eq_true w1] at hb
        simp (maxSteps := 1000000) (disch := first | omega | decide | assumption | simp [scal]) [za_4, o_fieldAddr fa_115_0 (by decide), o_fieldAddr fa_24_2 (by decide), loadA_eq ia_22, lenA_sl lk_22, o_indexAddrS es_22, loadA_eq ia_59, za_3, za_59, sz_3, sz_59, loadA_eq ia_115, o_fieldAddr fa_59_0 (by decide), loadA_eq ia_3, loadA_eq ia_24, sz_4, loadA_eq ia_4, want_some q73_26g3, want_some q73_26g8, want_some q73_26g13, w0, eq_true w1, hb, lp73]
      by_cases w2 : (k : Int) = out
      · rw [decide_eq_true w0, decide_eq_false w1, decide_eq_true w2] at hb
        simp (maxSteps := 1000000) (disch := first | omega | decide | assumption | simp [scal]) [za_4, o_fieldAddr fa_115_0 (by decide), o_fieldAddr fa_24_2 (by decide), loadA_eq ia_22, lenA_sl lk_22, o_indexAddrS es_22, loadA_eq ia_59, za_3, za_59, sz_3, sz_59, loadA_eq ia_115, o_fieldAddr fa_59_0 (by decide), loadA_eq ia_3, loadA_eq ia_24, sz_4, loadA_eq ia_4, want_some q73_26g3, want_some q73_26g8, want_some q73_26g13, w0, w1, eq_true w2, hb, lp73]
      rcases Bool.eq_false_or_eq_true (needS r f ⟨ah, al, au⟩ ⟨dh, dl, du⟩) with w3 | w3
      · rw [decide_eq_true w0, decide_eq_false w1, decide_eq_false w2, w3] at hb
        rw [w3] at hk
        simp (maxSteps := 1000000) (disch := first | omega | decide | assumption | simp [scal]) [za_4, o_fieldAddr fa_115_0 (by decide), o_fieldAddr fa_24_2 (by decide), loadA_eq ia_22, lenA_sl lk_22, o_indexAddrS es_22, loadA_eq ia_59, za_3, za_59, sz_3, sz_59, loadA_eq ia_115, o_fieldAddr fa_59_0 (by decide), loadA_eq ia_3, loadA_eq ia_24, sz_4, loadA_eq ia_4, want_some q73_26g3, want_some q73_26g8, want_some q73_26g13, w0, w1, w2, w3, hk, hb, lp73, ins, ptrB, renB]
      · rw [decide_eq_true w0, decide_eq_false w1, decide_eq_false w2, w3] at hb
        rw [w3] at hk
        simp (maxSteps := 1000000) (disch := first | omega | decide | assumption | simp [scal]) [za_4, o_fieldAddr fa_115_0 (by decide), o_fieldAddr fa_24_2 (by decide), loadA_eq ia_22, lenA_sl lk_22, o_indexAddrS es_22, loadA_eq ia_59, za_3, za_59, sz_3, sz_59, loadA_eq ia_115, o_fieldAddr fa_59_0 (by decide), loadA_eq ia_3, loadA_eq ia_24, sz_4, loadA_eq ia_4, want_some q73_26g3, want_some q73_26g8, want_some q73_26g13, w0, w1, w2, w3, hk, hb, lp73]
    · rw [decide_eq_false w0] at hb
      simp (maxSteps := 1000000) (disch := first | omega | decide | assumption | simp [scal]) [za_4, o_fieldAddr fa_115_0 (by decide), o_fieldAddr fa_24_2 (by decide), loadA_eq ia_22, lenA_sl lk_22, o_indexAddrS es_22, loadA_eq ia_59, za_3, za_59, sz_3, sz_59, loadA_eq ia_115, o_fieldAddr fa_59_0 (by decide), loadA_eq ia_3, loadA_eq ia_24, sz_4, loadA_eq ia_4, want_some q73_26g3, want_some q73_26g8, want_some q73_26g13, w0, hb, lp73]
  rcases Bool.eq_false_or_eq_true (hitB r f out ⟨ah, al, au⟩ ⟨dh, dl, du⟩ i k) with w | w
  · rw [if_pos w] at e2 ⊢
    rw [rnd_out (lp := lp73 1 2 3 6 7) (l1 := lp73 1 2 3 6 7) (l2 := { lp73 1 2 3 6 7 with state := .busy }) rfl rfl rfl rfl rfl e1 rfl rfl e2 (by simp) rfl]
    simp (maxSteps := 1000000) (disch := first | omega | decide | assumption | simp [scal]) [ins, exCode, lp73, ptrB, renB]
  · rw [if_neg (by simp [w])] at e2 ⊢
    rw [rnd_step (lp := lp73 1 2 3 6 7) (l1 := lp73 1 2 3 6 7) (l2 := { lp73 1 2 3 6 7 with state := .busy }) rfl rfl rfl rfl rfl e1 rfl rfl e2 rfl]
    simp (maxSteps := 1000000) (disch := first | omega | decide | assumption | simp [scal]) [ins, lp73, ptrB, renB]
end
end Go.Proofs.Ytiafgimgcbmgaaa.bl

namespace Go.Proofs.Ytiafgimgcbmgaaa.bl
open Go.GE
set_option linter.unusedVariables false
set_option linter.unusedSimpArgs false
set_option maxRecDepth 100000
set_option maxHeartbeats 4000000
attribute [local simp] runOps_nil runOps_cons runOpsF_nil runOpsF_cons fstS_some fstF_some opStep_eq want_none oStep_true oStep_false fin_pure fin_read fin_alloc fin_write storeB wrN cellV addWr o_move o_assign o_pick o_alloc o_box o_load o_store o_nilCheck o_bin o_un o_extract o_callV o_callB o_callI callV_f callV_y callV_fc o_makeFunc partsA Instr.fill builtin_len builtin_max2 bin_add bin_sub bin_mul bin_quo bin_rem bin_lss bin_leq bin_gtr bin_geq bin_eql bin_neq un_neg un_not bin_shr bin_shl wrap_u64_id opd opds optAll putO nbeq nblt constOk isC ops sub cl cr co bodyOf thenS_normal thenS_ret thenS_exit thenS_goto afterN_normal afterN_ret afterN_exit afterN_goto condS_true condS_false blockS_normal blockS_ret blockS_exit blockS_goto headS normS normK_eq fixS_nil fixS_cons fix1 fixV emptyB keepO_nil keepO_cons roundC_normal roundC_exit roundC_ret roundC_goto sweep_eq sweepD rnm pickR pickW rootsB ptrT renT ptrFn renFn ptrB_flat ptrB_non renB_flat renB_non plainS_some drawS_some fpsOk disj unord range' dropTo enumT undef wrap_i64_id Value.cells mkCells ptrTo scal cellsAt rdN endS_ret resultsA Option.bind_some tupV finish reachN dep ptrL_eq ptrL renL_eq renL ptrV_bool ptrV_int ptrV_string ptrV_nilFunc ptrV_nilIface ptrV_nilPtr ptrV_ptr ptrV_nilSl ptrV_sl ptrV_iface ptrV_agg ptrV_tuple ptrV_func renV_bool renV_int renV_string renV_nilFunc renV_nilIface renV_nilPtr renV_ptr renV_nilSl renV_sl renV_iface renV_agg renV_tuple renV_func gotoS_goto gotoS_normal gotoS_exit gotoS_ret skip_seq sliceE bnd bndHi intOf optOpd keepT_nil keepT_cons keepC_t keepC_f lk_nil lk_cons lkC_t lkC_f has_nil has_cons hasC_t hasC_f rep_nil rep_cons repC_t repC_f put_eq putC_t putC_f mem_nil mem_cons memC_t memC_f idx_nil idx_cons idxC_t idxC_f reach_nil reach_cons reachC_t reachC_f
attribute [local simp] n103_1s n103_5s n103_8s n103_9s n103_7s n103_13s n103_15s n103_17s n103_18s n103_16s n103_14s n103_12s n103_11s n103_19s n103_10s n103_6s n103_4s n103_3s n103_3g n103_2s n103_0s Try.f103
section
variable (r f : Int) (off n c off2 m c2 : Nat) (cs cs2 : List Value) (own own2 : Bool) (out : Int)
noncomputable def lpD (a b d e g : Nat) : ALoop := { lp73 a b d e g with state := .done, pending := some .ret }
theorem y103 (D : Dr r f) (a d : Ab) (A : OkA a) (B : OkA d) (i k : Nat) (res : Bool) (rest : List Blk) :
    yieldH LL 0 [iv i, abV a] (.loop (lp73 1 2 3 6 7) :: abB d :: c1 k :: ptB r f 4 off n c 5 off2 m c2 :: .cells cs 3 true own :: .cells cs2 1 true own2 :: c1 out :: b1 res :: rest) =
      if hitB r f out a d i k then some ⟨.bool false, .loop (lpD 1 2 3 6 7) :: abB d :: c1 k :: ptB r f 4 off n c 5 off2 m c2 :: .cells cs 3 true own :: .cells cs2 1 true own2 :: c1 out :: b1 false :: rest, [0, 1, 2, 3, 4, 5, 6, 7], [0, 7]⟩
      else some ⟨.bool true, .loop (lp73 1 2 3 6 7) :: abB d :: c1 k :: ptB r f 4 off n c 5 off2 m c2 :: .cells cs 3 true own :: .cells cs2 1 true own2 :: c1 out :: b1 res :: rest, [0, 1, 2, 3, 4, 5, 6, 7], [0]⟩ := by
  have e := r73 r f off n c off2 m c2 cs cs2 own own2 out D a d A B i k res
  have hm : ∀ q : Nat, 20 < q → reach (.loop (lp73 1 2 3 6 7) :: abB d :: c1 k :: ptB r f 4 off n c 5 off2 m c2 :: .cells cs 3 true own :: .cells cs2 1 true own2 :: c1 out :: b1 res :: rest) 0 q [0] [] = [0, 1, 2, 3, 4, 5, 6, 7] := by
    intro q hq
    obtain ⟨q, rfl⟩ : ∃ j, q = j + 20 := ⟨q - 20, by omega⟩
    simp [reach, mem, nblt, nbeq, ptrB, lp73, ptrT, ptrV_ptr, ptrV_sl, ptrV_int, dep]
  unfold yieldH
  have hp : 0 :: ([iv i, abV a] : List Value).flatMap (ptrV dep) = [0] := rfl
  have hr : ∀ g, optAll (renV g dep) [iv i, abV a] = some [iv i, abV a] := fun _ => rfl
  simp only [hp, hm reachN (by decide), hr]
  rcases Bool.eq_false_or_eq_true (hitB r f out a d i k) with w | w
  · rw [if_pos w] at e ⊢
    simp only [lp73, lpD] at e ⊢
    simp [optAll, renB, renT, renV_ptr, renV_sl, renV_int, dep, idx, nbeq, e, mergeB, renV_bool, nblt]
  · rw [if_neg (by simp [w])] at e ⊢
    simp only [lp73] at e ⊢
    simp [optAll, renB, renT, renV_ptr, renV_sl, renV_int, dep, idx, nbeq, e, mergeB, renV_bool, nblt]
variable (l : Nat → Ab) (st : Nat → Int)
theorem l103 (S : Sht r f n l) (hc : AbC cs off n l) (hc2 : IvC cs2 off2 m st) (ha : Asc m st) (hm : m ≤ 1000) (d : Ab) (B : OkA d) (k pt : Nat) : ∀ q i : Nat, i + q = n → ∀ W, (W = [] ∨ W = [0]) →
    (anyF (fun i => decide (partS m st (l i).h = pt) && hitB r f out (l i) d i k) q i = true →
      lpB Try.prog LL ⟨103, 29, 10, none⟩ n103_3 n103_4 ⟨[(0, .func (.yield 0) #[] #[]), (1, pp 8), (2, pp 9), (8, stV 4 off n c), (9, iv n), (10, iv i)], [.loop (lp73 1 2 3 6 7), abB d, c1 k, ptB r f 4 off n c 5 off2 m c2, .cells cs 3 true own, .cells cs2 1 true own2, c1 out, b1 false, ptB r f 4 off n c 5 off2 m c2, c1 pt], W⟩ =
        some (.ret, ⟨[], [.loop (lpD 1 2 3 6 7), abB d, c1 k, ptB r f 4 off n c 5 off2 m c2, .cells cs 3 true own, .cells cs2 1 true own2, c1 out, b1 false, ptB r f 4 off n c 5 off2 m c2, c1 pt], [0, 7]⟩)) ∧
    (anyF (fun i => decide (partS m st (l i).h = pt) && hitB r f out (l i) d i k) q i = false → ∃ W', (W' = [] ∨ W' = [0]) ∧
      lpB Try.prog LL ⟨103, 29, 10, none⟩ n103_3 n103_4 ⟨[(0, .func (.yield 0) #[] #[]), (1, pp 8), (2, pp 9), (8, stV 4 off n c), (9, iv n), (10, iv i)], [.loop (lp73 1 2 3 6 7), abB d, c1 k, ptB r f 4 off n c 5 off2 m c2, .cells cs 3 true own, .cells cs2 1 true own2, c1 out, b1 false, ptB r f 4 off n c 5 off2 m c2, c1 pt], W⟩ =
        some (.exit 0, ⟨[], [.loop (lp73 1 2 3 6 7), abB d, c1 k, ptB r f 4 off n c 5 off2 m c2, .cells cs 3 true own, .cells cs2 1 true own2, c1 out, b1 false, ptB r f 4 off n c 5 off2 m c2, c1 pt], W'⟩)) := by
  have hn := S.n40
  intro q
  induction q with
  | zero =>
    intro i hi W hW
    obtain rfl : i = n := by omega
    refine ⟨fun h => by simp [anyF] at h, fun _ => ⟨W, hW, ?_⟩⟩
    rw [lpB_eq]
    rcases hW with rfl | rfl <;>
    simp (maxSteps := 1000000) (disch := first | omega | decide | assumption | simp [scal]) [o_fieldAddr fa_115_0 (by decide), o_fieldAddr fa_24_2 (by decide), loadA_eq ia_22, lenA_sl lk_22, o_indexAddrS es_22, loadA_eq ia_59, za_59, sz_59, loadA_eq ia_115, o_fieldAddr fa_59_0 (by decide), loadA_eq ia_3, want_some q103_15g6, lp73, ptrB, renB]
  | succ q ih =>
    intro i hi W hW
    have e1 : i < n := by omega
    obtain ⟨p2, p3, p4⟩ := hc i e1
    have a1 := fun bx1 bx2 bx3 bx4 bx => k88 r f 4 off n c 5 off2 m c2 (h := bx1 :: bx2 :: bx3 :: bx4 :: .cells cs 3 true own :: .cells cs2 1 true own2 :: bx) (cs := cs) (cs2 := cs2) rfl rfl (by decide) hc2 ha hm (l i).h
    have a2 := y103 r f off n c off2 m c2 cs cs2 own own2 out S.dr (l i) d (S.ok i e1) B i k false
    rw [lpB_eq]
    simp only [anyF]
    by_cases w1 : partS m st (l i).h = pt
    · have w1' : (partS m st (l i).h : Int) = pt := by rw [w1]
      rcases Bool.eq_false_or_eq_true (hitB r f out (l i) d i k) with w2 | w2
      · simp only [w2, if_true] at a2
        refine ⟨fun _ => ?_, fun h => ?_⟩
        · simp only [lp73, lpD] at a2 ⊢
          rcases hW with rfl | rfl <;>
          simp (maxSteps := 1000000) (disch := first | omega | decide | assumption | simp [scal]) [o_fieldAddr fa_115_0 (by decide), o_fieldAddr fa_24_2 (by decide), loadA_eq ia_22, lenA_sl lk_22, o_indexAddrS es_22, loadA_eq ia_59, za_59, sz_59, loadA_eq ia_115, o_fieldAddr fa_59_0 (by decide), loadA_eq ia_3, want_some q103_15g6, ptrB, renB, e1, p2, p3, p4, a1, a2, eq_true w1', addWr, ins]
        · simp [w1, w2] at h
      · simp only [w2, Bool.false_eq_true, if_false] at a2
        have this := ih (i + 1) (by omega) [0] (.inr rfl)
        simp only [cast1] at this
        refine ⟨fun h => ?_, fun h => ?_⟩
        · have this := this.1 (by simpa [w2] using h)
          simp only [lp73, lpD] at this a2 ⊢
          rcases hW with rfl | rfl <;>
          simp (maxSteps := 1000000) (disch := first | omega | decide | assumption | simp [scal]) [o_fieldAddr fa_115_0 (by decide), o_fieldAddr fa_24_2 (by decide), loadA_eq ia_22, lenA_sl lk_22, o_indexAddrS es_22, loadA_eq ia_59, za_59, sz_59, loadA_eq ia_115, o_fieldAddr fa_59_0 (by decide), loadA_eq ia_3, want_some q103_15g6, lp73, lpD, ptrB, renB, e1, p2, p3, p4, a1, a2, eq_true w1', addWr, ins, this]
        · obtain ⟨W', hW', this⟩ := this.2 (by simpa [w2] using h)
          refine ⟨W', hW', ?_⟩
          simp only [lp73] at this a2 ⊢
          rcases hW with rfl | rfl <;>
          simp (maxSteps := 1000000) (disch := first | omega | decide | assumption | simp [scal]) [o_fieldAddr fa_115_0 (by decide), o_fieldAddr fa_24_2 (by decide), loadA_eq ia_22, lenA_sl lk_22, o_indexAddrS es_22, loadA_eq ia_59, za_59, sz_59, loadA_eq ia_115, o_fieldAddr fa_59_0 (by decide), loadA_eq ia_3, want_some q103_15g6, lp73, lpD, ptrB, renB, e1, p2, p3, p4, a1, a2, eq_true w1', addWr, ins, this]
    · have w1' : ¬ (partS m st (l i).h : Int) = pt := by omega
      have this := ih (i + 1) (by omega) W hW
      simp only [cast1] at this
      refine ⟨fun h => ?_, fun h => ?_⟩
      · have this := this.1 (by simpa [w1] using h)
        simp only [lp73, lpD] at this ⊢
        rcases hW with rfl | rfl <;>
        simp (maxSteps := 1000000) (disch := first | omega | decide | assumption | simp [scal]) [o_fieldAddr fa_115_0 (by decide), o_fieldAddr fa_24_2 (by decide), loadA_eq ia_22, lenA_sl lk_22, o_indexAddrS es_22, loadA_eq ia_59, za_59, sz_59, loadA_eq ia_115, o_fieldAddr fa_59_0 (by decide), loadA_eq ia_3, want_some q103_15g6, lp73, lpD, ptrB, renB, e1, p2, p3, p4, a1, w1', addWr, ins, this]
      · obtain ⟨W', hW', this⟩ := this.2 (by simpa [w1] using h)
        refine ⟨W', hW', ?_⟩
        simp only [lp73] at this ⊢
        rcases hW with rfl | rfl <;>
        simp (maxSteps := 1000000) (disch := first | omega | decide | assumption | simp [scal]) [o_fieldAddr fa_115_0 (by decide), o_fieldAddr fa_24_2 (by decide), loadA_eq ia_22, lenA_sl lk_22, o_indexAddrS es_22, loadA_eq ia_59, za_59, sz_59, loadA_eq ia_115, o_fieldAddr fa_59_0 (by decide), loadA_eq ia_3, want_some q103_15g6, lp73, lpD, ptrB, renB, e1, p2, p3, p4, a1, w1', addWr, ins, this]
end
end Go.Proofs.Ytiafgimgcbmgaaa.bl

namespace Go.Proofs.Ytiafgimgcbmgaaa.bl
open Go.GE
set_option linter.unusedVariables false
set_option linter.unusedSimpArgs false
set_option maxRecDepth 100000
set_option maxHeartbeats 4000000
attribute [local simp] runOps_nil runOps_cons runOpsF_nil runOpsF_cons fstS_some fstF_some opStep_eq want_none oStep_true oStep_false fin_pure fin_read fin_alloc fin_write storeB wrN cellV addWr o_move o_assign o_pick o_alloc o_box o_load o_store o_nilCheck o_bin o_un o_extract o_callV o_callB o_callI callV_f callV_y callV_fc o_makeFunc partsA Instr.fill builtin_len builtin_max2 bin_add bin_sub bin_mul bin_quo bin_rem bin_lss bin_leq bin_gtr bin_geq bin_eql bin_neq un_neg un_not bin_shr bin_shl wrap_u64_id opd opds optAll putO nbeq nblt constOk isC ops sub cl cr co bodyOf thenS_normal thenS_ret thenS_exit thenS_goto afterN_normal afterN_ret afterN_exit afterN_goto condS_true condS_false blockS_normal blockS_ret blockS_exit blockS_goto headS normS normK_eq fixS_nil fixS_cons fix1 fixV emptyB keepO_nil keepO_cons roundC_normal roundC_exit roundC_ret roundC_goto sweep_eq sweepD rnm pickR pickW rootsB ptrT renT ptrFn renFn ptrB_flat ptrB_non renB_flat renB_non plainS_some drawS_some fpsOk disj unord range' dropTo enumT undef wrap_i64_id Value.cells mkCells ptrTo scal cellsAt rdN endS_ret resultsA Option.bind_some tupV finish reachN dep ptrL_eq ptrL renL_eq renL ptrV_bool ptrV_int ptrV_string ptrV_nilFunc ptrV_nilIface ptrV_nilPtr ptrV_ptr ptrV_nilSl ptrV_sl ptrV_iface ptrV_agg ptrV_tuple ptrV_func renV_bool renV_int renV_string renV_nilFunc renV_nilIface renV_nilPtr renV_ptr renV_nilSl renV_sl renV_iface renV_agg renV_tuple renV_func gotoS_goto gotoS_normal gotoS_exit gotoS_ret skip_seq sliceE bnd bndHi intOf optOpd keepT_nil keepT_cons keepC_t keepC_f lk_nil lk_cons lkC_t lkC_f has_nil has_cons hasC_t hasC_f rep_nil rep_cons repC_t repC_f put_eq putC_t putC_f mem_nil mem_cons memC_t memC_f idx_nil idx_cons idxC_t idxC_f reach_nil reach_cons reachC_t reachC_f
attribute [local simp] n103_1s n103_5s n103_8s n103_9s n103_7s n103_13s n103_15s n103_17s n103_18s n103_16s n103_14s n103_12s n103_11s n103_19s n103_10s n103_6s n103_4s n103_3s n103_3g n103_2s n103_0s Try.f103 n87_1s n87_3s n87_4s n87_2s n87_0s Try.f87
section
variable (r f : Int) (off n c off2 m c2 : Nat) (cs cs2 : List Value) (own own2 : Bool) (out : Int) (l : Nat → Ab) (st : Nat → Int)
theorem c103 (S : Sht r f n l) (hc : AbC cs off n l) (hc2 : IvC cs2 off2 m st) (ha : Asc m st) (hm : m ≤ 1000) (d : Ab) (B : OkA d) (k pt : Nat) :
    (anyF (fun i => decide (partS m st (l i).h = pt) && hitB r f out (l i) d i k) n 0 = true →
      LL.run 103 [.func (.yield 0) #[] #[], pp 8, pp 9] [.loop (lp73 1 2 3 6 7), abB d, c1 k, ptB r f 4 off n c 5 off2 m c2, .cells cs 3 true own, .cells cs2 1 true own2, c1 out, b1 false, ptB r f 4 off n c 5 off2 m c2, c1 pt] =
        some ⟨.tuple #[], [], [(0, .loop (lpD 1 2 3 6 7)), (7, b1 false)]⟩) ∧
    (anyF (fun i => decide (partS m st (l i).h = pt) && hitB r f out (l i) d i k) n 0 = false → ∃ ws, (ws = [] ∨ ws = [(0, .loop (lp73 1 2 3 6 7))]) ∧
      LL.run 103 [.func (.yield 0) #[] #[], pp 8, pp 9] [.loop (lp73 1 2 3 6 7), abB d, c1 k, ptB r f 4 off n c 5 off2 m c2, .cells cs 3 true own, .cells cs2 1 true own2, c1 out, b1 false, ptB r f 4 off n c 5 off2 m c2, c1 pt] =
        some ⟨.tuple #[], [], ws⟩) := by
  have this := l103 r f off n c off2 m c2 cs cs2 own own2 out l st S hc hc2 ha hm d B k pt n 0 (by omega) [] (.inl rfl)
  simp only [Int.natCast_zero] at this
  refine ⟨fun h => go (by decide) ?_, fun h => ?_⟩
  · have this := this.1 h
    rw [run103 _ _ _ (by simp)]
    simp only [lp73, lpD] at this ⊢
    simp (maxSteps := 1000000) (disch := first | omega | decide | assumption | simp [scal]) [o_fieldAddr fa_115_0 (by decide), o_fieldAddr fa_24_2 (by decide), loadA_eq ia_22, lenA_sl lk_22, o_indexAddrS es_22, loadA_eq ia_59, za_59, sz_59, loadA_eq ia_115, o_fieldAddr fa_59_0 (by decide), loadA_eq ia_3, want_some q103_15g6, ptrB, renB, this]
  · obtain ⟨W, hW, this⟩ := this.2 h
    rcases hW with rfl | rfl
    · refine ⟨[], .inl rfl, go (by decide) ?_⟩
      rw [run103 _ _ _ (by simp)]
      simp only [lp73] at this ⊢
      simp (maxSteps := 1000000) (disch := first | omega | decide | assumption | simp [scal]) [o_fieldAddr fa_115_0 (by decide), o_fieldAddr fa_24_2 (by decide), loadA_eq ia_22, lenA_sl lk_22, o_indexAddrS es_22, loadA_eq ia_59, za_59, sz_59, loadA_eq ia_115, o_fieldAddr fa_59_0 (by decide), loadA_eq ia_3, want_some q103_15g6, ptrB, renB, this, endS_normal]
    · refine ⟨_, .inr rfl, go (by decide) ?_⟩
      rw [run103 _ _ _ (by simp)]
      simp only [lp73] at this ⊢
      simp (maxSteps := 1000000) (disch := first | omega | decide | assumption | simp [scal]) [o_fieldAddr fa_115_0 (by decide), o_fieldAddr fa_24_2 (by decide), loadA_eq ia_22, lenA_sl lk_22, o_indexAddrS es_22, loadA_eq ia_59, za_59, sz_59, loadA_eq ia_115, o_fieldAddr fa_59_0 (by decide), loadA_eq ia_3, want_some q103_15g6, ptrB, renB, this, endS_normal]
theorem k87 (pt : Nat) (rest : List Blk) : callH LL 87 [ptV r f 0 off n c 1 off2 m c2, iv pt] (.cells cs 3 true own :: .cells cs2 1 true own2 :: rest) =
    some ⟨.func (.func 103) #[] #[pp (rest.length + 2), pp (rest.length + 3)], .cells cs 3 true own :: .cells cs2 1 true own2 :: (rest ++ [ptB r f 0 off n c 1 off2 m c2, c1 pt]), [0, 1], []⟩ := by
  have e : LL.run 87 [ptV r f 0 off n c 1 off2 m c2, iv pt] [.cells cs 3 true own, .cells cs2 1 true own2] = some ⟨.func (.func 103) #[] #[pp 2, pp 3], [ptB r f 0 off n c 1 off2 m c2, c1 pt], []⟩ := by
    refine go (by decide) ?_
    rw [run87 _ _ _ (by simp)]
    simp (maxSteps := 1000000) (disch := first | omega | decide | assumption | simp [scal])
  refine callH_of (by intro _; first | trivial | rfl) ?_ (by simp)
  unfold callH0
  have hp : ([ptV r f 0 off n c 1 off2 m c2, iv pt] : List Value).flatMap (ptrV dep) = [0, 1] := rfl
  have hr : optAll (renV (idx [0, 1]) dep) [ptV r f 0 off n c 1 off2 m c2, iv pt] = some [ptV r f 0 off n c 1 off2 m c2, iv pt] := rfl
  rw [hp, reach_two (h := .cells cs 3 true own :: .cells cs2 1 true own2 :: rest) rfl rfl (by decide) rfl rfl (by decide)]
  simp only [hr]
  simp [optAll, renB, e, mergeB, renV_func, renFn, renL, renV_ptr, renL_eq, renV_int, renV_sl, dep, nblt]
end
end Go.Proofs.Ytiafgimgcbmgaaa.bl

namespace Go.Proofs.Ytiafgimgcbmgaaa.bl
open Go.GE
set_option linter.unusedVariables false
set_option linter.unusedSimpArgs false
set_option maxRecDepth 100000
set_option maxHeartbeats 4000000
attribute [local simp] runOps_nil runOps_cons runOpsF_nil runOpsF_cons fstS_some fstF_some opStep_eq want_none oStep_true oStep_false fin_pure fin_read fin_alloc fin_write storeB wrN cellV addWr o_move o_assign o_pick o_alloc o_box o_load o_store o_nilCheck o_bin o_un o_extract o_callV o_callB o_callI callV_f callV_y callV_fc o_makeFunc partsA Instr.fill builtin_len builtin_max2 bin_add bin_sub bin_mul bin_quo bin_rem bin_lss bin_leq bin_gtr bin_geq bin_eql bin_neq un_neg un_not bin_shr bin_shl wrap_u64_id opd opds optAll putO nbeq nblt constOk isC ops sub cl cr co bodyOf thenS_normal thenS_ret thenS_exit thenS_goto afterN_normal afterN_ret afterN_exit afterN_goto condS_true condS_false blockS_normal blockS_ret blockS_exit blockS_goto headS normS normK_eq fixS_nil fixS_cons fix1 fixV emptyB keepO_nil keepO_cons roundC_normal roundC_exit roundC_ret roundC_goto sweep_eq sweepD rnm pickR pickW rootsB ptrT renT ptrFn renFn ptrB_flat ptrB_non renB_flat renB_non plainS_some drawS_some fpsOk disj unord range' dropTo enumT undef wrap_i64_id Value.cells mkCells ptrTo scal cellsAt rdN endS_ret resultsA Option.bind_some tupV finish reachN dep ptrL_eq ptrL renL_eq renL ptrV_bool ptrV_int ptrV_string ptrV_nilFunc ptrV_nilIface ptrV_nilPtr ptrV_ptr ptrV_nilSl ptrV_sl ptrV_iface ptrV_agg ptrV_tuple ptrV_func renV_bool renV_int renV_string renV_nilFunc renV_nilIface renV_nilPtr renV_ptr renV_nilSl renV_sl renV_iface renV_agg renV_tuple renV_func gotoS_goto gotoS_normal gotoS_exit gotoS_ret skip_seq sliceE bnd bndHi intOf optOpd keepT_nil keepT_cons keepC_t keepC_f lk_nil lk_cons lkC_t lkC_f has_nil has_cons hasC_t hasC_f rep_nil rep_cons repC_t repC_f put_eq putC_t putC_f mem_nil mem_cons memC_t memC_f idx_nil idx_cons idxC_t idxC_f reach_nil reach_cons reachC_t reachC_f
attribute [local simp] n73_1s n73_4s n73_8s n73_11s n73_12s n73_10s n73_16s n73_18s n73_22s n73_23s n73_21s n73_26s n73_29s n73_30s n73_28s n73_31s n73_27s n73_25s n73_24s n73_19s n73_17s n73_15s n73_14s n73_32s n73_13s n73_9s n73_7s n73_6s n73_6g n73_5s n73_3s n73_34s n73_35s n73_33s n73_2s n73_0s Try.f73
/-- is there one that clashes with the k-th, as the program looks for it? -/
def rowB (r f out : Int) (l : Nat → Ab) (n m : Nat) (st : Nat → Int) (k : Nat) : Bool := anyF (fun i => decide (partS m st (l i).h = partS m st (l k).h) && hitB r f out (l i) (l k) i k) n 0
section
variable (r f : Int) (off n c off2 m c2 : Nat) (cs cs2 : List Value) (own own2 : Bool) (out : Int) (l : Nat → Ab) (st : Nat → Int)
theorem h103 (S : Sht r f n l) (hc : AbC cs off n l) (hc2 : IvC cs2 off2 m st) (ha : Asc m st) (hm : m ≤ 1000) (k : Nat) (hk : k < n) :
    (rowB r f out l n m st k = true →
      callH LL 103 [.func (.yield 9) #[] #[], pp 7, pp 8] [.cells cs 3 true own, .cells cs2 1 true own2, ptB r f 0 off n c 1 off2 m c2, c1 out, b1 false, c1 k, abB (l k), ptB r f 0 off n c 1 off2 m c2, c1 (partS m st (l k).h), .loop (lp73 6 5 2 3 4)] =
        some ⟨.tuple #[], [.cells cs 3 true own, .cells cs2 1 true own2, ptB r f 0 off n c 1 off2 m c2, c1 out, b1 false, c1 k, abB (l k), ptB r f 0 off n c 1 off2 m c2, c1 (partS m st (l k).h), .loop (lpD 6 5 2 3 4)], [9, 6, 5, 2, 0, 1, 3, 4, 7, 8], [9, 4]⟩) ∧
    (rowB r f out l n m st k = false → ∃ W, (W = [] ∨ W = [9]) ∧
      callH LL 103 [.func (.yield 9) #[] #[], pp 7, pp 8] [.cells cs 3 true own, .cells cs2 1 true own2, ptB r f 0 off n c 1 off2 m c2, c1 out, b1 false, c1 k, abB (l k), ptB r f 0 off n c 1 off2 m c2, c1 (partS m st (l k).h), .loop (lp73 6 5 2 3 4)] =
        some ⟨.tuple #[], [.cells cs 3 true own, .cells cs2 1 true own2, ptB r f 0 off n c 1 off2 m c2, c1 out, b1 false, c1 k, abB (l k), ptB r f 0 off n c 1 off2 m c2, c1 (partS m st (l k).h), .loop (lp73 6 5 2 3 4)], [9, 6, 5, 2, 0, 1, 3, 4, 7, 8], W⟩) := by
  have e := c103 r f off n c off2 m c2 cs cs2 own own2 out l st S hc hc2 ha hm (l k) (S.ok k hk) k (partS m st (l k).h)
  have hm : ∀ q : Nat, 20 < q → reach [.cells cs 3 true own, .cells cs2 1 true own2, ptB r f 0 off n c 1 off2 m c2, c1 out, b1 false, c1 k, abB (l k), ptB r f 0 off n c 1 off2 m c2, c1 (partS m st (l k).h), .loop (lp73 6 5 2 3 4)] 0 q [9, 7, 8] [] = [9, 6, 5, 2, 0, 1, 3, 4, 7, 8] := by
    intro q hq
    obtain ⟨q, rfl⟩ : ∃ j, q = j + 20 := ⟨q - 20, by omega⟩
    simp [reach_cons, reachC_t, reachC_f, reach_nil, rootsB, GE.mem, nblt, nbeq, ptrB, lp73, ptrT, ptrV_ptr, ptrV_sl, ptrV_int, dep]
  have hp : ([.func (.yield 9) #[] #[], pp 7, pp 8] : List Value).flatMap (ptrV dep) = [9, 7, 8] := rfl
  have key : ∀ rr, LL.run 103 [.func (.yield 0) #[] #[], pp 8, pp 9] [.loop (lp73 1 2 3 6 7), abB (l k), c1 k, ptB r f 4 off n c 5 off2 m c2, .cells cs 3 true own, .cells cs2 1 true own2, c1 out, b1 false, ptB r f 4 off n c 5 off2 m c2, c1 (partS m st (l k).h)] = some rr →
      callH0 LL 103 [.func (.yield 9) #[] #[], pp 7, pp 8] [.cells cs 3 true own, .cells cs2 1 true own2, ptB r f 0 off n c 1 off2 m c2, c1 out, b1 false, c1 k, abB (l k), ptB r f 0 off n c 1 off2 m c2, c1 (partS m st (l k).h), .loop (lp73 6 5 2 3 4)] =
        mergeB [.cells cs 3 true own, .cells cs2 1 true own2, ptB r f 0 off n c 1 off2 m c2, c1 out, b1 false, c1 k, abB (l k), ptB r f 0 off n c 1 off2 m c2, c1 (partS m st (l k).h), .loop (lp73 6 5 2 3 4)] [9, 6, 5, 2, 0, 1, 3, 4, 7, 8] rr := by
    intro rr hrr
    unfold callH0
    simp only [hp, hm reachN (by decide)]
    simp only [lp73] at hrr ⊢
    simp [optAll, renV_func, renFn, renL, renV_ptr, dep, idx, nbeq, renB, renT, renL_eq, renV_int, renV_sl, hrr]
  refine ⟨fun h => ?_, fun h => ?_⟩
  · refine callH_of (by intro _; first | trivial | rfl) ?_ (by simp)
    rw [key _ (e.1 h)]
    simp only [lp73, lpD]
    simp [mergeB, renV_tuple, renL, dep, optAll, renB, renT, renV_ptr, nblt]
  · obtain ⟨ws, hws, e⟩ := e.2 h
    rcases hws with rfl | rfl
    · refine ⟨[], .inl rfl, callH_of (by intro _; first | trivial | rfl) ?_ (by simp)⟩
      rw [key _ e]
      simp only [lp73]
      simp [mergeB, renV_tuple, renL, dep, optAll, renB, renT, renV_ptr, nblt]
    · refine ⟨[9], .inr rfl, callH_of (by intro _; first | trivial | rfl) ?_ (by simp)⟩
      rw [key _ e]
      simp only [lp73]
      simp [mergeB, renV_tuple, renL, dep, optAll, renB, renT, renV_ptr, nblt]
theorem ex_ret {X : Res} {σ : Tm} {h : List Blk} (e : X = some (.ret, ⟨σ, h, []⟩)) (h1 : lk σ 4 = some (pp 4)) (h2 : h[4]? = some (b1 false)) : ∃ σ h, lk σ 4 = some (pp 4) ∧ h[4]? = some (b1 false) ∧ X = some (.ret, ⟨σ, h, []⟩) := ⟨σ, h, h1, h2, e⟩
theorem l73 (S : Sht r f n l) (hc : AbC cs off n l) (hc2 : IvC cs2 off2 m st) (ha : Asc m st) (hm : m ≤ 1000) : ∀ q k : Nat, k + q = n →
    (anyF (rowB r f out l n m st) q k = true → ∃ σ h, lk σ 4 = some (pp 4) ∧ h[4]? = some (b1 false) ∧
      lpB Try.prog LL ⟨73, 47, 2, none⟩ n73_6 n73_7 ⟨[(2, pp 2), (3, pp 3), (4, pp 4), (11, stV 0 off n c), (12, iv n), (13, iv k)], [.cells cs 3 true own, .cells cs2 1 true own2, ptB r f 0 off n c 1 off2 m c2, c1 out, b1 false], []⟩ = some (.ret, ⟨σ, h, []⟩)) ∧
    (anyF (rowB r f out l n m st) q k = false →
      lpB Try.prog LL ⟨73, 47, 2, none⟩ n73_6 n73_7 ⟨[(2, pp 2), (3, pp 3), (4, pp 4), (11, stV 0 off n c), (12, iv n), (13, iv k)], [.cells cs 3 true own, .cells cs2 1 true own2, ptB r f 0 off n c 1 off2 m c2, c1 out, b1 false], []⟩ =
        some (.exit 0, ⟨[(4, pp 2)], [.cells cs 3 true own, .cells cs2 1 true own2, b1 false], []⟩)) := by
  have hn := S.n40
  intro q
  induction q with
  | zero =>
    intro k hk
    obtain rfl : k = n := by omega
    refine ⟨fun h => by simp [anyF] at h, fun _ => ?_⟩
    rw [lpB_eq]
    simp (maxSteps := 1000000) (disch := first | omega | decide | assumption | simp [scal]) [za_4, o_fieldAddr fa_115_0 (by decide), o_fieldAddr fa_24_2 (by decide), loadA_eq ia_22, lenA_sl lk_22, o_indexAddrS es_22, loadA_eq ia_59, za_3, za_59, sz_3, sz_59, loadA_eq ia_115, o_fieldAddr fa_59_0 (by decide), loadA_eq ia_3, loadA_eq ia_24, sz_4, loadA_eq ia_4, want_some q73_26g3, want_some q73_26g8, want_some q73_26g13]
  | succ q ih =>
    intro k hk
    have e1 : k < n := by omega
    obtain ⟨p2, p3, p4⟩ := hc k e1
    have a1 := fun bx => k88 r f 0 off n c 1 off2 m c2 (h := .cells cs 3 true own :: .cells cs2 1 true own2 :: bx) (cs := cs) (cs2 := cs2) rfl rfl (by decide) hc2 ha hm (l k).h
    have a2 := k87 r f off n c off2 m c2 cs cs2 own own2 (partS m st (l k).h)
    have a3 := h103 r f off n c off2 m c2 cs cs2 own own2 out l st S hc hc2 ha hm k e1
    have this := ih (k + 1) (by omega)
    simp only [cast1] at this
    rcases Bool.eq_false_or_eq_true (rowB r f out l n m st k) with w | w
    · have a3 := a3.1 w
      refine ⟨fun _ => ?_, fun h => by simp [anyF, w] at h⟩
      apply ex_ret
      · rw [lpB_eq]
        simp (maxSteps := 1000000) (disch := first | omega | decide | assumption | simp [scal]) [za_4, o_fieldAddr fa_115_0 (by decide), o_fieldAddr fa_24_2 (by decide), loadA_eq ia_22, lenA_sl lk_22, o_indexAddrS es_22, loadA_eq ia_59, za_3, za_59, sz_3, sz_59, loadA_eq ia_115, o_fieldAddr fa_59_0 (by decide), loadA_eq ia_3, loadA_eq ia_24, sz_4, loadA_eq ia_4, want_some q73_26g3, want_some q73_26g8, want_some q73_26g13, e1, p2, p3, p4, a1, a2]
        rw [range_step n73_20e n73_20k rfl]
        simp only [lp73, lpD] at a3
        simp (maxSteps := 1000000) (disch := first | omega | decide | assumption | simp [scal]) [za_4, o_fieldAddr fa_115_0 (by decide), o_fieldAddr fa_24_2 (by decide), loadA_eq ia_22, lenA_sl lk_22, o_indexAddrS es_22, loadA_eq ia_59, za_3, za_59, sz_3, sz_59, loadA_eq ia_115, o_fieldAddr fa_59_0 (by decide), loadA_eq ia_3, loadA_eq ia_24, sz_4, loadA_eq ia_4, want_some q73_26g3, want_some q73_26g8, want_some q73_26g13, a3]
        rw [rangeE_done (e := .ret) rfl rfl rfl rfl]
        simp (maxSteps := 1000000) (disch := first | omega | decide | assumption | simp [scal]) [za_4, o_fieldAddr fa_115_0 (by decide), o_fieldAddr fa_24_2 (by decide), loadA_eq ia_22, lenA_sl lk_22, o_indexAddrS es_22, loadA_eq ia_59, za_3, za_59, sz_3, sz_59, loadA_eq ia_115, o_fieldAddr fa_59_0 (by decide), loadA_eq ia_3, loadA_eq ia_24, sz_4, loadA_eq ia_4, want_some q73_26g3, want_some q73_26g8, want_some q73_26g13, addWr]
        exact ⟨rfl, rfl⟩
      · rfl
      · rfl
    · obtain ⟨W, hW, a3⟩ := a3.2 w
      simp only [anyF, w, Bool.false_or]
      have key : lpB Try.prog LL ⟨73, 47, 2, none⟩ n73_6 n73_7 ⟨[(2, pp 2), (3, pp 3), (4, pp 4), (11, stV 0 off n c), (12, iv n), (13, iv k)], [.cells cs 3 true own, .cells cs2 1 true own2, ptB r f 0 off n c 1 off2 m c2, c1 out, b1 false], []⟩ =
        lpB Try.prog LL ⟨73, 47, 2, none⟩ n73_6 n73_7 ⟨[(2, pp 2), (3, pp 3), (4, pp 4), (11, stV 0 off n c), (12, iv n), (13, iv (k + 1))], [.cells cs 3 true own, .cells cs2 1 true own2, ptB r f 0 off n c 1 off2 m c2, c1 out, b1 false], []⟩ := by
        rw [lpB_eq]
        simp (maxSteps := 1000000) (disch := first | omega | decide | assumption | simp [scal]) [za_4, o_fieldAddr fa_115_0 (by decide), o_fieldAddr fa_24_2 (by decide), loadA_eq ia_22, lenA_sl lk_22, o_indexAddrS es_22, loadA_eq ia_59, za_3, za_59, sz_3, sz_59, loadA_eq ia_115, o_fieldAddr fa_59_0 (by decide), loadA_eq ia_3, loadA_eq ia_24, sz_4, loadA_eq ia_4, want_some q73_26g3, want_some q73_26g8, want_some q73_26g13, e1, p2, p3, p4, a1, a2]
        rw [range_step n73_20e n73_20k rfl]
        simp only [lp73] at a3
        simp (maxSteps := 1000000) (disch := first | omega | decide | assumption | simp [scal]) [za_4, o_fieldAddr fa_115_0 (by decide), o_fieldAddr fa_24_2 (by decide), loadA_eq ia_22, lenA_sl lk_22, o_indexAddrS es_22, loadA_eq ia_59, za_3, za_59, sz_3, sz_59, loadA_eq ia_115, o_fieldAddr fa_59_0 (by decide), loadA_eq ia_3, loadA_eq ia_24, sz_4, loadA_eq ia_4, want_some q73_26g3, want_some q73_26g8, want_some q73_26g13, a3]
        rw [rangeE_ready rfl rfl rfl]
        rcases hW with rfl | rfl <;>
        simp (maxSteps := 1000000) (disch := first | omega | decide | assumption | simp [scal]) [za_4, o_fieldAddr fa_115_0 (by decide), o_fieldAddr fa_24_2 (by decide), loadA_eq ia_22, lenA_sl lk_22, o_indexAddrS es_22, loadA_eq ia_59, za_3, za_59, sz_3, sz_59, loadA_eq ia_115, o_fieldAddr fa_59_0 (by decide), loadA_eq ia_3, loadA_eq ia_24, sz_4, loadA_eq ia_4, want_some q73_26g3, want_some q73_26g8, want_some q73_26g13, addWr]
      rw [key]
      exact this
end
end Go.Proofs.Ytiafgimgcbmgaaa.bl

namespace Go.Proofs.Ytiafgimgcbmgaaa.bl
open Go.GE
set_option linter.unusedVariables false
set_option linter.unusedSimpArgs false
set_option maxRecDepth 100000
set_option maxHeartbeats 4000000
attribute [local simp] runOps_nil runOps_cons runOpsF_nil runOpsF_cons fstS_some fstF_some opStep_eq want_none oStep_true oStep_false fin_pure fin_read fin_alloc fin_write storeB wrN cellV addWr o_move o_assign o_pick o_alloc o_box o_load o_store o_nilCheck o_bin o_un o_extract o_callV o_callB o_callI callV_f callV_y callV_fc o_makeFunc partsA Instr.fill builtin_len builtin_max2 bin_add bin_sub bin_mul bin_quo bin_rem bin_lss bin_leq bin_gtr bin_geq bin_eql bin_neq un_neg un_not bin_shr bin_shl wrap_u64_id opd opds optAll putO nbeq nblt constOk isC ops sub cl cr co bodyOf thenS_normal thenS_ret thenS_exit thenS_goto afterN_normal afterN_ret afterN_exit afterN_goto condS_true condS_false blockS_normal blockS_ret blockS_exit blockS_goto headS normS normK_eq fixS_nil fixS_cons fix1 fixV emptyB keepO_nil keepO_cons roundC_normal roundC_exit roundC_ret roundC_goto sweep_eq sweepD rnm pickR pickW rootsB ptrT renT ptrFn renFn ptrB_flat ptrB_non renB_flat renB_non plainS_some drawS_some fpsOk disj unord range' dropTo enumT undef wrap_i64_id Value.cells mkCells ptrTo scal cellsAt rdN endS_ret resultsA Option.bind_some tupV finish reachN dep ptrL_eq ptrL renL_eq renL ptrV_bool ptrV_int ptrV_string ptrV_nilFunc ptrV_nilIface ptrV_nilPtr ptrV_ptr ptrV_nilSl ptrV_sl ptrV_iface ptrV_agg ptrV_tuple ptrV_func renV_bool renV_int renV_string renV_nilFunc renV_nilIface renV_nilPtr renV_ptr renV_nilSl renV_sl renV_iface renV_agg renV_tuple renV_func gotoS_goto gotoS_normal gotoS_exit gotoS_ret skip_seq sliceE bnd bndHi intOf optOpd keepT_nil keepT_cons keepC_t keepC_f lk_nil lk_cons lkC_t lkC_f has_nil has_cons hasC_t hasC_f rep_nil rep_cons repC_t repC_f put_eq putC_t putC_f mem_nil mem_cons memC_t memC_f idx_nil idx_cons idxC_t idxC_f reach_nil reach_cons reachC_t reachC_f
attribute [local simp] n73_1s n73_4s n73_8s n73_11s n73_12s n73_10s n73_16s n73_18s n73_22s n73_23s n73_21s n73_26s n73_29s n73_30s n73_28s n73_31s n73_27s n73_25s n73_24s n73_19s n73_17s n73_15s n73_14s n73_32s n73_13s n73_9s n73_7s n73_6s n73_6g n73_5s n73_3s n73_34s n73_35s n73_33s n73_2s n73_0s Try.f73 n72_1s n72_4s n72_6s n72_9s n72_10s n72_8s n72_11s n72_7s n72_5s n72_3s n72_14s n72_17s n72_18s n72_16s n72_19s n72_15s n72_13s n72_21s n72_24s n72_28s n72_31s n72_32s n72_30s n72_36s n72_40s n72_43s n72_44s n72_42s n72_46s n72_49s n72_50s n72_48s n72_51s n72_47s n72_45s n72_41s n72_39s n72_38s n72_52s n72_37s n72_35s n72_34s n72_53s n72_33s n72_29s n72_27s n72_26s n72_26g n72_25s n72_23s n72_55s n72_56s n72_54s n72_22s n72_20s n72_12s n72_2s n72_0s Try.f72
theorem any_clash {r f out : Int} {l : Nat → Ab} {n m : Nat} {st : Nat → Int} : anyF (rowB r f out l n m st) n 0 = clashS r f n l m st out := by
  apply Bool.eq_iff_iff.2
  unfold clashS
  simp only [anyF_iff, rowB, hitB, badB, Bool.and_eq_true, Bool.not_eq_true', decide_eq_true_eq, decide_eq_false_iff_not]
  constructor
  · rintro ⟨k, _, hk, i, _, hi, h1, ⟨⟨h2, h3⟩, h4⟩, h5⟩
    exact ⟨i, by omega, by omega, k, by omega, by omega, ⟨⟨h3, h4⟩, h1⟩, h5⟩
  · rintro ⟨i, _, hi, k, h0, hk, ⟨⟨h3, h4⟩, h1⟩, h5⟩
    exact ⟨k, by omega, by omega, i, by omega, by omega, h1, ⟨⟨by omega, h3⟩, h4⟩, h5⟩
section
variable (r f : Int) (off n c off2 m c2 : Nat) (cs cs2 : List Value) (own own2 : Bool) (out : Int) (l : Nat → Ab) (st : Nat → Int)
theorem c73 (S : Sht r f n l) (hc : AbC cs off n l) (hc2 : IvC cs2 off2 m st) (ha : Asc m st) (hm : m ≤ 1000) : LL.run 73 [ptV r f 0 off n c 1 off2 m c2, iv out] [.cells cs 3 true own, .cells cs2 1 true own2] = some ⟨.bool (!clashS r f n l m st out), [], []⟩ := by
  refine go (by decide) ?_
  rw [run73 _ _ _ (by simp)]
  have this := l73 r f off n c off2 m c2 cs cs2 own own2 out l st S hc hc2 ha hm n 0 (by omega)
  rw [any_clash] at this
  simp only [Int.natCast_zero] at this
  rcases Bool.eq_false_or_eq_true (clashS r f n l m st out) with w | w
  · obtain ⟨σ, h, h1, h2, this⟩ := this.1 w
    rw [w]
    simp (maxSteps := 1000000) (disch := first | omega | decide | assumption | simp [scal]) [za_4, o_fieldAddr fa_115_0 (by decide), o_fieldAddr fa_24_2 (by decide), loadA_eq ia_22, lenA_sl lk_22, o_indexAddrS es_22, loadA_eq ia_59, za_3, za_59, sz_3, sz_59, loadA_eq ia_115, o_fieldAddr fa_59_0 (by decide), loadA_eq ia_3, loadA_eq ia_24, sz_4, loadA_eq ia_4, want_some q73_26g3, want_some q73_26g8, want_some q73_26g13, this, h1, h2]
  · have this := this.2 w
    rw [w]
    simp (maxSteps := 1000000) (disch := first | omega | decide | assumption | simp [scal]) [za_4, o_fieldAddr fa_115_0 (by decide), o_fieldAddr fa_24_2 (by decide), loadA_eq ia_22, lenA_sl lk_22, o_indexAddrS es_22, loadA_eq ia_59, za_3, za_59, sz_3, sz_59, loadA_eq ia_115, o_fieldAddr fa_59_0 (by decide), loadA_eq ia_3, loadA_eq ia_24, sz_4, loadA_eq ia_4, want_some q73_26g3, want_some q73_26g8, want_some q73_26g13, this]
def stpL (st : Nat → Int) : Nat → Nat → Int → Int
  | 0, _, _ => 0
  | k + 1, i, last => if (decide (0 ≤ st i) && decide (st i ≤ 10000)) = false then 1 else if st i ≤ last then 5 else stpL st k (i + 1) (st i)
noncomputable def stpS (m : Nat) (st : Nat → Int) : Int := if 40 < m then 3 else stpL st m 0 (-1)
abbrev E3 : Blk := .cells [] 3 true true
abbrev E1 : Blk := .cells [] 1 true true
abbrev zB (a b : Nat) : Blk := .cells [iv 0, iv 0, .slice (some ⟨a, 0, none⟩) 0 0, .slice (some ⟨b, 0, none⟩) 0 0] 1 false true
abbrev zV (a b : Nat) : Value := .agg #[iv 0, iv 0, .slice (some ⟨a, 0, none⟩) 0 0, .slice (some ⟨b, 0, none⟩) 0 0]
theorem l72 (hc2 : IvC cs2 off2 m st) (hm : m ≤ 40) : ∀ k (i : Nat) last, i + k = m →
    lpB Try.prog LL ⟨72, 41, 2, none⟩ n72_26 n72_27 ⟨[(1, stV 1 off2 m c2), (2, pp 2), (4, pp 3), (7, iv last), (20, stV 1 off2 m c2), (21, iv m), (22, iv i)], [.cells cs 3 true own, .cells cs2 1 true own2, shB r f 0 off n c, zB 4 5, E3, E1], []⟩ =
      if stpL st k i last = 0 then some (.exit 0, ⟨[(1, stV 1 off2 m c2), (2, pp 2), (4, pp 3)], [.cells cs 3 true own, .cells cs2 1 true own2, shB r f 0 off n c, zB 4 5, E3, E1], []⟩)
      else some (.ret, ⟨[(4, pp 2), (5, iv (stpL st k i last))], [.cells cs 3 true own, .cells cs2 1 true own2, zB 3 4, E3, E1], []⟩) := by
  intro k
  induction k with
  | zero =>
    intro i last hi
    obtain rfl : i = m := by omega
    rw [lpB_eq]
    simp (maxSteps := 1000000) (disch := first | omega | decide | assumption | simp [scal]) [za_115, loadA_eq ia_24, o_build za_115 pl_115, sz_115, lenA_sl lk_25, o_indexAddrS es_25, loadA_eq ia_3, loadA_eq ia_115, stpL]
  | succ k ih =>
    intro i last hi
    have e1 : i < m := by omega
    have this := ih (i + 1) (st i) (by omega)
    have e2 := hc2 i e1
    rw [lpB_eq]
    simp only [cast1] at this
    cases h1 : (decide (0 ≤ st i) && decide (st i ≤ 10000))
    · simp (maxSteps := 1000000) (disch := first | omega | decide | assumption | simp [scal]) [za_115, loadA_eq ia_24, o_build za_115 pl_115, sz_115, lenA_sl lk_25, o_indexAddrS es_25, loadA_eq ia_3, loadA_eq ia_115, stpL, k56, e1, e2, h1]
    · by_cases h2 : st i ≤ last
      · simp (maxSteps := 1000000) (disch := first | omega | decide | assumption | simp [scal]) [za_115, loadA_eq ia_24, o_build za_115 pl_115, sz_115, lenA_sl lk_25, o_indexAddrS es_25, loadA_eq ia_3, loadA_eq ia_115, stpL, k56, e1, e2, h1, h2]
      · simp (maxSteps := 1000000) (disch := first | omega | decide | assumption | simp [scal]) [za_115, loadA_eq ia_24, o_build za_115 pl_115, sz_115, lenA_sl lk_25, o_indexAddrS es_25, loadA_eq ia_3, loadA_eq ia_115, stpL, k56, e1, e2, h1, h2, this]
end
end Go.Proofs.Ytiafgimgcbmgaaa.bl

namespace Go.Proofs.Ytiafgimgcbmgaaa.bl
open Go.GE
set_option linter.unusedVariables false
set_option linter.unusedSimpArgs false
set_option maxRecDepth 100000
set_option maxHeartbeats 4000000
attribute [local simp] runOps_nil runOps_cons runOpsF_nil runOpsF_cons fstS_some fstF_some opStep_eq want_none oStep_true oStep_false fin_pure fin_read fin_alloc fin_write storeB wrN cellV addWr o_move o_assign o_pick o_alloc o_box o_load o_store o_nilCheck o_bin o_un o_extract o_callV o_callB o_callI callV_f callV_y callV_fc o_makeFunc partsA Instr.fill builtin_len builtin_max2 bin_add bin_sub bin_mul bin_quo bin_rem bin_lss bin_leq bin_gtr bin_geq bin_eql bin_neq un_neg un_not bin_shr bin_shl wrap_u64_id opd opds optAll putO nbeq nblt constOk isC ops sub cl cr co bodyOf thenS_normal thenS_ret thenS_exit thenS_goto afterN_normal afterN_ret afterN_exit afterN_goto condS_true condS_false blockS_normal blockS_ret blockS_exit blockS_goto headS normS normK_eq fixS_nil fixS_cons fix1 fixV emptyB keepO_nil keepO_cons roundC_normal roundC_exit roundC_ret roundC_goto sweep_eq sweepD rnm pickR pickW rootsB ptrT renT ptrFn renFn ptrB_flat ptrB_non renB_flat renB_non plainS_some drawS_some fpsOk disj unord range' dropTo enumT undef wrap_i64_id Value.cells mkCells ptrTo scal cellsAt rdN endS_ret resultsA Option.bind_some tupV finish reachN dep ptrL_eq ptrL renL_eq renL ptrV_bool ptrV_int ptrV_string ptrV_nilFunc ptrV_nilIface ptrV_nilPtr ptrV_ptr ptrV_nilSl ptrV_sl ptrV_iface ptrV_agg ptrV_tuple ptrV_func renV_bool renV_int renV_string renV_nilFunc renV_nilIface renV_nilPtr renV_ptr renV_nilSl renV_sl renV_iface renV_agg renV_tuple renV_func gotoS_goto gotoS_normal gotoS_exit gotoS_ret skip_seq sliceE bnd bndHi intOf optOpd keepT_nil keepT_cons keepC_t keepC_f lk_nil lk_cons lkC_t lkC_f has_nil has_cons hasC_t hasC_f rep_nil rep_cons repC_t repC_f put_eq putC_t putC_f mem_nil mem_cons memC_t memC_f idx_nil idx_cons idxC_t idxC_f reach_nil reach_cons reachC_t reachC_f
attribute [local simp] n72_1s n72_4s n72_6s n72_9s n72_10s n72_8s n72_11s n72_7s n72_5s n72_3s n72_14s n72_17s n72_18s n72_16s n72_19s n72_15s n72_13s n72_21s n72_24s n72_28s n72_31s n72_32s n72_30s n72_36s n72_40s n72_43s n72_44s n72_42s n72_46s n72_49s n72_50s n72_48s n72_51s n72_47s n72_45s n72_41s n72_39s n72_38s n72_52s n72_37s n72_35s n72_34s n72_53s n72_33s n72_29s n72_27s n72_26s n72_26g n72_25s n72_23s n72_55s n72_56s n72_54s n72_22s n72_20s n72_12s n72_2s n72_0s Try.f72 n53_1s n53_3s n53_6s n53_9s n53_10s n53_8s n53_11s n53_7s n53_5s n53_13s n53_14s n53_12s n53_4s n53_2s n53_0s Try.f53
/-- the error of a sheet with steps -/
noncomputable def ptdE (r f : Int) (n : Nat) (l : Nat → Ab) (m : Nat) (st : Nat → Int) : Int := if chkS r f n l ≠ 0 then chkS r f n l else stpS m st
theorem asc_of {m : Nat} {st : Nat → Int} (h : stpS m st = 0) : Asc m st ∧ m ≤ 40 ∧ ∀ i, i < m → 0 ≤ st i ∧ st i ≤ 10000 := by
  unfold stpS at h
  split at h
  · simp at h
  · rename_i hm
    have key : ∀ k i last, stpL st k i last = 0 → (∀ j, i ≤ j → j < i + k → 0 ≤ st j ∧ st j ≤ 10000) ∧ (0 < k → last < st i) ∧ ∀ j, i ≤ j → j + 1 < i + k → st j < st (j + 1) := by
      intro k
      induction k with
      | zero => intro i last _; exact ⟨fun j h1 h2 => by omega, fun h => by omega, fun j h1 h2 => by omega⟩
      | succ k ih =>
        intro i last h
        unfold stpL at h
        split at h
        · simp at h
        · rename_i h1
          split at h
          · simp at h
          · rename_i h2
            obtain ⟨q1, q2, q3⟩ := ih (i + 1) _ h
            simp only [Bool.not_eq_false, Bool.and_eq_true, decide_eq_true_eq] at h1
            refine ⟨fun j a b => ?_, fun _ => by omega, fun j a b => ?_⟩
            · rcases Nat.eq_or_lt_of_le a with rfl | a
              · exact h1
              · exact q1 j (by omega) (by omega)
            · rcases Nat.eq_or_lt_of_le a with rfl | a
              · exact q2 (by omega)
              · exact q3 j (by omega) (by omega)
    obtain ⟨q1, q2, q3⟩ := key _ _ _ h
    refine ⟨?_, by omega, fun i hi => q1 i (by omega) (by omega)⟩
    intro i j hij
    induction j with
    | zero => omega
    | succ j ih =>
      intro hj
      have := q3 j (by omega) (by omega)
      rcases Nat.lt_succ_iff_lt_or_eq.1 hij with h | rfl
      · have := ih h (by omega); omega
      · exact this
section
variable (r f : Int) (off n c off2 m c2 : Nat) (cs cs2 : List Value) (own own2 : Bool) (l : Nat → Ab) (st : Nat → Int)
theorem c72a (hc : AbC cs off n l) (hc2 : IvC cs2 off2 m st) (he : ptdE r f n l m st = 0) : LL.run 72 [shV r f 0 off n c, stV 1 off2 m c2] [.cells cs 3 true own, .cells cs2 1 true own2] = some ⟨.tuple #[ptV r f 0 off n c 1 off2 m c2, iv 0], [], []⟩ := by
  refine go (by decide) ?_
  rw [run72 _ _ _ (by simp)]
  have a1 := fun bx => k22 r f 0 off n c (h := .cells cs 3 true own :: bx) l rfl hc
  unfold ptdE at he
  by_cases h1 : chkS r f n l = 0
  · rw [if_neg (by simp [h1])] at he
    have h4 := (asc_of he).2.1
    unfold stpS at he
    rw [if_neg (by omega)] at he
    have this := l72 r f off n c off2 m c2 cs cs2 own own2 st hc2 h4 m 0 (-1) (by omega)
    rw [if_pos he] at this
    simp only [Int.natCast_zero] at this
    have h4' : ¬ (40 : Int) < m := by omega
    simp (maxSteps := 1000000) (disch := first | omega | decide | assumption | simp [scal]) [za_115, loadA_eq ia_24, o_build za_115 pl_115, sz_115, lenA_sl lk_25, o_indexAddrS es_25, loadA_eq ia_3, loadA_eq ia_115, a1, h1, h4', this]
  · rw [if_pos h1] at he; exact absurd he h1
theorem c72b (hc : AbC cs off n l) (hc2 : IvC cs2 off2 m st) (he : ptdE r f n l m st ≠ 0) : LL.run 72 [shV r f 0 off n c, stV 1 off2 m c2] [.cells cs 3 true own, .cells cs2 1 true own2] = some ⟨.tuple #[zV 2 3, iv (ptdE r f n l m st)], [E3, E1], []⟩ := by
  refine go (by decide) ?_
  rw [run72 _ _ _ (by simp)]
  have a1 := fun bx => k22 r f 0 off n c (h := .cells cs 3 true own :: bx) l rfl hc
  unfold ptdE at he ⊢
  by_cases h1 : chkS r f n l = 0
  · rw [if_neg (by simp [h1])] at he ⊢
    by_cases h4 : 40 < m
    · have h4' : (40 : Int) < m := by omega
      have hs : stpS m st = 3 := by unfold stpS; rw [if_pos h4]
      simp (maxSteps := 1000000) (disch := first | omega | decide | assumption | simp [scal]) [za_115, loadA_eq ia_24, o_build za_115 pl_115, sz_115, lenA_sl lk_25, o_indexAddrS es_25, loadA_eq ia_3, loadA_eq ia_115, a1, h1, h4', hs]
    · have hs : stpS m st = stpL st m 0 (-1) := by unfold stpS; rw [if_neg h4]
      rw [hs] at he ⊢
      have this := l72 r f off n c off2 m c2 cs cs2 own own2 st hc2 (by omega) m 0 (-1) (by omega)
      rw [if_neg he] at this
      simp only [Int.natCast_zero] at this
      have h4' : ¬ (40 : Int) < m := by omega
      simp (maxSteps := 1000000) (disch := first | omega | decide | assumption | simp [scal]) [za_115, loadA_eq ia_24, o_build za_115 pl_115, sz_115, lenA_sl lk_25, o_indexAddrS es_25, loadA_eq ia_3, loadA_eq ia_115, a1, h1, h4', this]
  · rw [if_pos h1] at he ⊢
    simp (maxSteps := 1000000) (disch := first | omega | decide | assumption | simp [scal]) [za_115, loadA_eq ia_24, o_build za_115 pl_115, sz_115, lenA_sl lk_25, o_indexAddrS es_25, loadA_eq ia_3, loadA_eq ia_115, a1, h1]
end
section
variable (r f : Int) (b1 off n c b2 off2 m c2 : Nat) {cs cs2 : List Value} {own own2 : Bool} {l : Nat → Ab} {st : Nat → Int} (out : Int) {h : List Blk}
theorem ss_ren (hne : b1 ≠ b2) : optAll (renV (idx [b1, b2]) dep) [shV r f b1 off n c, stV b2 off2 m c2] = some [shV r f 0 off n c, stV 1 off2 m c2] := by simp [renV, dep, optAll, idx, nbeq, hne, hne.symm]
theorem k72a (hb : h[b1]? = some (.cells cs 3 true own)) (hb2 : h[b2]? = some (.cells cs2 1 true own2)) (hne : b1 ≠ b2) (hc : AbC cs off n l) (hc2 : IvC cs2 off2 m st) (he : ptdE r f n l m st = 0) :
    callH LL 72 [shV r f b1 off n c, stV b2 off2 m c2] h = some ⟨.tuple #[ptV r f b1 off n c b2 off2 m c2, iv 0], h, [b1, b2], []⟩ := by
  have e := c72a r f off n c off2 m c2 cs cs2 own own2 l st hc hc2 he
  have := callN_2 (E := LL) (v' := .tuple #[ptV r f b1 off n c b2 off2 m c2, iv 0]) rfl hb hb2 hne noIdB_flat noIdB_flat (ss_ren r f b1 off n c b2 off2 m c2 hne) e (by simp) (by simp [renV, dep, optAll, nblt])
  simpa using this
theorem k72b (hb : h[b1]? = some (.cells cs 3 true own)) (hb2 : h[b2]? = some (.cells cs2 1 true own2)) (hne : b1 ≠ b2) (hc : AbC cs off n l) (hc2 : IvC cs2 off2 m st) (he : ptdE r f n l m st ≠ 0) :
    callH LL 72 [shV r f b1 off n c, stV b2 off2 m c2] h = some ⟨.tuple #[zV h.length (h.length + 1), iv (ptdE r f n l m st)], h ++ [E3, E1], [b1, b2], []⟩ :=
  callN_2 rfl hb hb2 hne noIdB_flat noIdB_flat (ss_ren r f b1 off n c b2 off2 m c2 hne) (c72b r f off n c off2 m c2 cs cs2 own own2 l st hc hc2 he) (by intro b hb; simp at hb; rcases hb with rfl | rfl <;> exact noIdB_flat) (by simp [renV, dep, optAll, nblt])
theorem k73 (S : Sht r f n l) (hb : h[b1]? = some (.cells cs 3 true own)) (hb2 : h[b2]? = some (.cells cs2 1 true own2)) (hne : b1 ≠ b2) (hc : AbC cs off n l) (hc2 : IvC cs2 off2 m st) (ha : Asc m st) (hm : m ≤ 1000) :
    callH LL 73 [ptV r f b1 off n c b2 off2 m c2, iv out] h = some ⟨.bool (!clashS r f n l m st out), h, [b1, b2], []⟩ :=
  callH_2 rfl hb hb2 hne noIdB_flat noIdB_flat (args' := [ptV r f 0 off n c 1 off2 m c2, iv out]) (by simp [renV, dep, optAll, idx, nbeq, hne, hne.symm]) (c73 r f off n c off2 m c2 cs cs2 own own2 out l st S hc hc2 ha hm) fun _ => rfl
end
/-- the error of explaining -/
noncomputable def expE (r f : Int) (n : Nat) (l : Nat → Ab) (m : Nat) (st : Nat → Int) : Int := if ptdE r f n l m st ≠ 0 then ptdE r f n l m st else if clashS r f n l m st (-1) then 13 else 0
theorem ptd_chk {r f : Int} {n : Nat} {l : Nat → Ab} {m : Nat} {st : Nat → Int} (h : ptdE r f n l m st = 0) : Sht r f n l ∧ Asc m st ∧ m ≤ 40 := by
  unfold ptdE at h
  split at h
  · rename_i h1; exact absurd h h1
  · rename_i h1
    have := asc_of h
    exact ⟨chkS_zero (by simpa using h1), this.1, this.2.1⟩
section
variable (r f : Int) (off n c off2 m c2 : Nat) (cs cs2 : List Value) (own own2 : Bool) (l : Nat → Ab) (st : Nat → Int)
theorem c53a (hc : AbC cs off n l) (hc2 : IvC cs2 off2 m st) (he : expE r f n l m st = 0) : LL.run 53 [shV r f 0 off n c, stV 1 off2 m c2] [.cells cs 3 true own, .cells cs2 1 true own2] = some ⟨.tuple #[ptV r f 0 off n c 1 off2 m c2, iv 0], [], []⟩ := by
  refine go (by decide) ?_
  rw [run53 _ _ _ (by simp)]
  unfold expE at he
  by_cases h1 : ptdE r f n l m st = 0
  · rw [if_neg (by simp [h1])] at he
    obtain ⟨S, ha, hm⟩ := ptd_chk h1
    have a1 := fun bx => k72a r f 0 off n c 1 off2 m c2 (h := .cells cs 3 true own :: .cells cs2 1 true own2 :: bx) rfl rfl (by decide) hc hc2 h1
    have a2 := fun bx => k73 r f 0 off n c 1 off2 m c2 (-1) (h := .cells cs 3 true own :: .cells cs2 1 true own2 :: bx) S rfl rfl (by decide) hc hc2 ha (by omega)
    rcases Bool.eq_false_or_eq_true (clashS r f n l m st (-1)) with w | w
    · rw [w] at he; simp at he
    · rw [w] at a2
      simp (maxSteps := 1000000) (disch := first | omega | decide | assumption | simp [scal]) [za_115, loadA_eq ia_24, sz_115, loadA_eq ia_115, o_build za_115 pl_115, want_some q53_6g2, a1, a2]
  · rw [if_pos h1] at he; exact absurd he h1
theorem c53b (hc : AbC cs off n l) (hc2 : IvC cs2 off2 m st) (he : expE r f n l m st ≠ 0) : LL.run 53 [shV r f 0 off n c, stV 1 off2 m c2] [.cells cs 3 true own, .cells cs2 1 true own2] = some ⟨.tuple #[zV 2 3, iv (expE r f n l m st)], [E3, E1], []⟩ := by
  refine go (by decide) ?_
  rw [run53 _ _ _ (by simp)]
  unfold expE at he ⊢
  by_cases h1 : ptdE r f n l m st = 0
  · rw [if_neg (by simp [h1])] at he ⊢
    obtain ⟨S, ha, hm⟩ := ptd_chk h1
    have a1 := fun bx => k72a r f 0 off n c 1 off2 m c2 (h := .cells cs 3 true own :: .cells cs2 1 true own2 :: bx) rfl rfl (by decide) hc hc2 h1
    have a2 := fun bx => k73 r f 0 off n c 1 off2 m c2 (-1) (h := .cells cs 3 true own :: .cells cs2 1 true own2 :: bx) S rfl rfl (by decide) hc hc2 ha (by omega)
    rcases Bool.eq_false_or_eq_true (clashS r f n l m st (-1)) with w | w
    · rw [w] at a2 ⊢
      simp (maxSteps := 1000000) (disch := first | omega | decide | assumption | simp [scal]) [za_115, loadA_eq ia_24, sz_115, loadA_eq ia_115, o_build za_115 pl_115, want_some q53_6g2, a1, a2]
    · rw [w] at he; simp at he
  · rw [if_pos h1] at he ⊢
    have a1 := fun bx => k72b r f 0 off n c 1 off2 m c2 (h := .cells cs 3 true own :: .cells cs2 1 true own2 :: bx) rfl rfl (by decide) hc hc2 h1
    simp (maxSteps := 1000000) (disch := first | omega | decide | assumption | simp [scal]) [za_115, loadA_eq ia_24, sz_115, loadA_eq ia_115, o_build za_115 pl_115, want_some q53_6g2, a1, h1]
end
end Go.Proofs.Ytiafgimgcbmgaaa.bl

