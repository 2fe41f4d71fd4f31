/-
  Contracts of functions of the program at the limit evaluator. No condition.
-/
import Derived.Test.YtfccmddkblbeoaaRAN
import Derived.Test.YtfccmddkblbeoaaE40
namespace Go.Proofs.Ytfccmddkblbeoaa.rk
open Go.GE
set_option linter.unusedVariables false
set_option linter.unusedSimpArgs false
set_option linter.unusedSectionVars false
set_option maxRecDepth 100000
set_option maxHeartbeats 4000000
attribute [local simp] runOps_nil runOps_cons runOpsF_nil runOpsF_cons fstS_some fstF_some opStep_eq want_none oStep_true oStep_false fin_pure fin_read fin_alloc fin_write storeB wrN cellV addWr o_move o_assign o_pick o_alloc o_box o_load o_store o_nilCheck o_bin o_un o_extract o_callV o_callB o_callI callV_f callV_y callV_fc o_makeFunc partsA Instr.fill builtin_len builtin_max2 bin_add bin_sub bin_mul bin_quo bin_rem bin_lss bin_leq bin_gtr bin_geq bin_eql bin_neq un_neg un_not bin_shr bin_shl wrap_u64_id opd opds optAll putO nbeq nblt constOk isC ops sub cl cr co bodyOf thenS_normal thenS_ret thenS_exit thenS_goto afterN_normal afterN_ret afterN_exit afterN_goto condS_true condS_false blockS_normal blockS_ret blockS_exit blockS_goto headS normS normK_eq fixS_nil fixS_cons fix1 fixV emptyB keepO_nil keepO_cons roundC_normal roundC_exit roundC_ret roundC_goto sweep_eq sweepD rnm pickR pickW rootsB ptrT renT ptrFn renFn ptrB_flat ptrB_non renB_flat renB_non plainS_some drawS_some fpsOk disj unord range' dropTo enumT undef wrap_i64_id Value.cells mkCells ptrTo scal cellsAt rdN endS_ret resultsA Option.bind_some tupV finish reachN dep ptrL_eq ptrL renL_eq renL ptrV_bool ptrV_int ptrV_string ptrV_nilFunc ptrV_nilIface ptrV_nilPtr ptrV_ptr ptrV_nilSl ptrV_sl ptrV_iface ptrV_agg ptrV_tuple ptrV_func renV_bool renV_int renV_string renV_nilFunc renV_nilIface renV_nilPtr renV_ptr renV_nilSl renV_sl renV_iface renV_agg renV_tuple renV_func gotoS_goto gotoS_normal gotoS_exit gotoS_ret skip_seq sliceE bnd bndHi intOf optOpd keepT_nil keepT_cons keepC_t keepC_f lk_nil lk_cons lkC_t lkC_f has_nil has_cons hasC_t hasC_f rep_nil rep_cons repC_t repC_f put_eq putC_t putC_f mem_nil mem_cons memC_t memC_f idx_nil idx_cons idxC_t idxC_f reach_nil reach_cons reachC_t reachC_f
attribute [local simp] n57_1s n57_3s n57_4s n57_2s n57_0s Try.f57 n58_1s n58_3s n58_4s n58_2s n58_0s Try.f58 n75_1s n75_3s n75_4s n75_2s n75_0s Try.f75 n82_1s n82_4s n82_8s n82_11s n82_12s n82_10s n82_16s n82_18s n82_21s n82_22s n82_20s n82_23s n82_19s n82_17s n82_15s n82_14s n82_24s n82_13s n82_9s n82_7s n82_6s n82_6g n82_5s n82_3s n82_26s n82_27s n82_25s n82_2s n82_0s Try.f82
theorem other {f : FuncId} (hf : (14 : Nat) ≠ f) (a : List Value) (h : List Blk) : (wk.wtab.keep kpT).run f a h = none := by
  show GE.tabR [wk.ew] f a h = none
  have : Nat.beq wk.ew.f f = false := GE.beq_false.2 hf
  simp only [tabR, this, Bool.false_and, cond_false]
theorem go {f : FuncId} {args : List Value} {h : List Blk} {r : RR} (hf : (14 : Nat) ≠ f) (he : runB Try.prog LL f args h = some r) : LL.run f args h = some r := L_run (other hf _ _) he
theorem k14 (h : List Blk) : callH LL 14 [] h = some ⟨.bool true, h, [], []⟩ := callH_plain (L_tab rfl) rfl rfl
abbrev sl (b off n c : Nat) : Value := .slice (some ⟨b, off, none⟩) n c
/-- cells of spans -/
def SpC (cs : List Value) (off n : Nat) (l : Nat → Int × Int) : Prop := ∀ i, i < n → cs[off + i * 2]? = some (iv (l i).1) ∧ cs[off + i * 2 + 1]? = some (iv (l i).2)
/-- cells of integers -/
def InC (cs : List Value) (off n : Nat) (o : Nat → Int) : Prop := ∀ i, i < n → cs[off + i]? = some (iv (o i))
theorem k57 (a b c : Int) (h : List Blk) : callH LL 57 [iv a, iv b, iv c] h = some ⟨.bool (decide (a ≤ b) && decide (b ≤ c)), h, [], []⟩ := by
  refine callH_plain (go (by decide) ?_) rfl rfl
  rw [run57 _ _ _ (by simp)]
  by_cases h1 : a ≤ b <;> by_cases h2 : b ≤ c <;>
  simp (maxSteps := 1000000) (disch := first | omega | decide | assumption | simp [scal]) [want_some q57_3g3, h1, h2]
theorem k58 (a b c : Int) (h : List Blk) : callH LL 58 [iv a, iv b, iv c] h = some ⟨.bool (decide (b ≤ a) && decide (a ≤ c)), h, [], []⟩ := by
  refine callH_plain (go (by decide) ?_) rfl rfl
  rw [run58 _ _ _ (by simp)]
  by_cases h1 : b ≤ a <;> by_cases h2 : a ≤ c <;>
  simp (maxSteps := 1000000) (disch := first | omega | decide | assumption | simp [scal]) [want_some q58_3g3, h1, h2]
/-- a month's day that is not valid -/
def bad (s : Int × Int) : Bool := !(decide (0 ≤ s.1) && decide (s.1 ≤ s.2)) || decide (100000 < s.2)
theorem k75 (x y : Int) (h : List Blk) : callH LL 75 [.agg #[iv x, iv y]] h = some ⟨.bool (bad (x, y)), h, [], []⟩ := by
  refine callH_none rfl (fun _ => rfl) (go (by decide) ?_) fun _ => rfl
  rw [run75 _ _ _ (by simp)]
  cases h1 : (decide (0 ≤ x) && decide (x ≤ y))
  · simp (maxSteps := 1000000) (disch := first | omega | decide | assumption | simp [scal]) [o_fieldAddr fa_55_0 (by decide), loadA_eq ia_3, o_fieldAddr fa_55_1 (by decide), want_some q75_3g6, h1, k57, bad]
  · by_cases h2 : (100000 : Int) < y
    · simp (maxSteps := 1000000) (disch := first | omega | decide | assumption | simp [scal]) [o_fieldAddr fa_55_0 (by decide), loadA_eq ia_3, o_fieldAddr fa_55_1 (by decide), want_some q75_3g6, h1, h2, k57, bad]
    · simp (maxSteps := 1000000) (disch := first | omega | decide | assumption | simp [scal]) [o_fieldAddr fa_55_0 (by decide), loadA_eq ia_3, o_fieldAddr fa_55_1 (by decide), want_some q75_3g6, h1, h2, k57, bad]
def idxL (l : Nat → Int × Int) : Nat → Nat → Int
  | 0, _ => -1
  | k + 1, i => if bad (l i) = true then i else idxL l k (i + 1)
def anyB (l : Nat → Int × Int) : Nat → Nat → Bool
  | 0, _ => false
  | k + 1, i => bad (l i) || anyB l k (i + 1)
theorem idx_any {l : Nat → Int × Int} : ∀ k i, decide (0 ≤ idxL l k i) = anyB l k i := by
  intro k
  induction k with
  | zero => intro i; rfl
  | succ k ih =>
    intro i
    unfold idxL anyB
    cases h : bad (l i)
    · simp [ih]
    · simp
section
variable (off n c : Nat) (cs : List Value) (own : Bool) (l : Nat → Int × Int)
theorem l82 (hc : SpC cs off n l) (hn : n ≤ 60) : ∀ k i : Nat, i + k = n →
    lpB Try.prog LL ⟨82, 19, 1, none⟩ n82_6 n82_7 ⟨[(0, sl 0 off n c), (1, .func (.func 75) #[] #[]), (7, iv n), (8, iv i)], [.cells cs 2 true own], []⟩ =
      if idxL l k i = -1 then some (.exit 0, ⟨[], [.cells cs 2 true own], []⟩) else some (.ret, ⟨[(4, iv (idxL l k i))], [.cells cs 2 true own], []⟩) := by
  intro k
  induction k with
  | zero =>
    intro i hi
    obtain rfl : i = n := by omega
    rw [lpB_eq]
    simp (maxSteps := 1000000) (disch := first | omega | decide | assumption | simp [scal]) [lenA_sl lk_22, o_indexAddrS es_22, loadA_eq ia_55, idxL]
  | succ k ih =>
    intro i hi
    have e1 : i < n := by omega
    have this := ih (i + 1) (by omega)
    obtain ⟨e2, e3⟩ := hc i e1
    obtain ⟨x, y, hxy⟩ : ∃ x y, l i = (x, y) := ⟨_, _, rfl⟩
    rw [hxy] at e2 e3
    unfold idxL
    rw [hxy]
    rw [lpB_eq]
    simp only [cast1] at this
    cases h1 : bad (x, y)
    · simp (maxSteps := 1000000) (disch := first | omega | decide | assumption | simp [scal]) [lenA_sl lk_22, o_indexAddrS es_22, loadA_eq ia_55, e1, e2, e3, k75, h1, this]
    · have : ¬ ((i : Int) = -1) := by omega
      simp (maxSteps := 1000000) (disch := first | omega | decide | assumption | simp [scal]) [lenA_sl lk_22, o_indexAddrS es_22, loadA_eq ia_55, e1, e2, e3, k75, h1, this]
end
end Go.Proofs.Ytfccmddkblbeoaa.rk
namespace Go.Proofs.Ytfccmddkblbeoaa.rk
open Go.GE
set_option linter.unusedVariables false
set_option linter.unusedSimpArgs false
set_option linter.unusedSectionVars false
set_option maxRecDepth 100000
set_option maxHeartbeats 4000000
attribute [local simp] runOps_nil runOps_cons runOpsF_nil runOpsF_cons fstS_some fstF_some opStep_eq want_none oStep_true oStep_false fin_pure fin_read fin_alloc fin_write storeB wrN cellV addWr o_move o_assign o_pick o_alloc o_box o_load o_store o_nilCheck o_bin o_un o_extract o_callV o_callB o_callI callV_f callV_y callV_fc o_makeFunc partsA Instr.fill builtin_len builtin_max2 bin_add bin_sub bin_mul bin_quo bin_rem bin_lss bin_leq bin_gtr bin_geq bin_eql bin_neq un_neg un_not bin_shr bin_shl wrap_u64_id opd opds optAll putO nbeq nblt constOk isC ops sub cl cr co bodyOf thenS_normal thenS_ret thenS_exit thenS_goto afterN_normal afterN_ret afterN_exit afterN_goto condS_true condS_false blockS_normal blockS_ret blockS_exit blockS_goto headS normS normK_eq fixS_nil fixS_cons fix1 fixV emptyB keepO_nil keepO_cons roundC_normal roundC_exit roundC_ret roundC_goto sweep_eq sweepD rnm pickR pickW rootsB ptrT renT ptrFn renFn ptrB_flat ptrB_non renB_flat renB_non plainS_some drawS_some fpsOk disj unord range' dropTo enumT undef wrap_i64_id Value.cells mkCells ptrTo scal cellsAt rdN endS_ret resultsA Option.bind_some tupV finish reachN dep ptrL_eq ptrL renL_eq renL ptrV_bool ptrV_int ptrV_string ptrV_nilFunc ptrV_nilIface ptrV_nilPtr ptrV_ptr ptrV_nilSl ptrV_sl ptrV_iface ptrV_agg ptrV_tuple ptrV_func renV_bool renV_int renV_string renV_nilFunc renV_nilIface renV_nilPtr renV_ptr renV_nilSl renV_sl renV_iface renV_agg renV_tuple renV_func gotoS_goto gotoS_normal gotoS_exit gotoS_ret skip_seq sliceE bnd bndHi intOf optOpd keepT_nil keepT_cons keepC_t keepC_f lk_nil lk_cons lkC_t lkC_f has_nil has_cons hasC_t hasC_f rep_nil rep_cons repC_t repC_f put_eq putC_t putC_f mem_nil mem_cons memC_t memC_f idx_nil idx_cons idxC_t idxC_f reach_nil reach_cons reachC_t reachC_f
attribute [local simp] n82_1s n82_4s n82_8s n82_11s n82_12s n82_10s n82_16s n82_18s n82_21s n82_22s n82_20s n82_23s n82_19s n82_17s n82_15s n82_14s n82_24s n82_13s n82_9s n82_7s n82_6s n82_6g n82_5s n82_3s n82_26s n82_27s n82_25s n82_2s n82_0s Try.f82 n74_1s n74_3s n74_4s n74_2s n74_0s Try.f74 n45_1s n45_5s n45_8s n45_9s n45_7s n45_11s n45_14s n45_15s n45_13s n45_17s n45_20s n45_21s n45_19s n45_22s n45_18s n45_16s n45_12s n45_10s n45_6s n45_4s n45_3s n45_24s n45_25s n45_23s n45_2s n45_0s Try.f45 n77_1s n77_3s n77_4s n77_2s n77_0s Try.f77 n55_1s n55_3s n55_4s n55_2s n55_0s Try.f55 n50_1s n50_4s n50_7s n50_8s n50_6s n50_9s n50_5s n50_3s n50_12s n50_15s n50_16s n50_14s n50_17s n50_13s n50_11s n50_20s n50_25s n50_27s n50_28s n50_26s n50_24s n50_32s n50_35s n50_36s n50_34s n50_37s n50_33s n50_31s n50_30s n50_38s n50_29s n50_23s n50_22s n50_22g n50_21s n50_19s n50_40s n50_41s n50_39s n50_18s n50_10s n50_2s n50_0s Try.f50
/-- a month's check -/
def chkS (l : Nat → Int × Int) (n : Nat) : Int := if n = 0 then 2 else if 30 < n then 3 else if anyB l n 0 = true then 1 else 0
def quiet (l : Nat → Int × Int) (i k : Nat) : Bool := decide ((l i).2 < (l k).1)
section
variable (b off n c : Nat) {cs : List Value} {own : Bool} {l : Nat → Int × Int} {h : List Blk} (hb : h[b]? = some (.cells cs 2 true own)) (hc : SpC cs off n l)
include hb hc
theorem k82 (hn : n ≤ 60) : callH LL 82 [sl b off n c, .func (.func 75) #[] #[]] h = some ⟨iv (idxL l n 0), h, [b], []⟩ := by
  refine callH_1 rfl hb noIdB_flat (args' := [sl 0 off n c, .func (.func 75) #[] #[]]) (by simp [renV, dep, optAll, idx, nbeq]) (go (by decide) ?_) fun _ => rfl
  rw [run82 _ _ _ (by simp)]
  have this := l82 off n c cs own l hc hn n 0 (by omega)
  by_cases h1 : idxL l n 0 = -1
  · rw [if_pos h1] at this
    simp only [Int.natCast_zero] at this
    rw [h1]
    simp (maxSteps := 1000000) (disch := first | omega | decide | assumption | simp [scal]) [lenA_sl lk_22, o_indexAddrS es_22, loadA_eq ia_55, this]
  · rw [if_neg h1] at this
    simp only [Int.natCast_zero] at this
    simp (maxSteps := 1000000) (disch := first | omega | decide | assumption | simp [scal]) [lenA_sl lk_22, o_indexAddrS es_22, loadA_eq ia_55, this]
theorem k74 (hn : n ≤ 60) : callH LL 74 [sl b off n c, .func (.func 75) #[] #[]] h = some ⟨.bool (anyB l n 0), h, [b], []⟩ := by
  refine callH_1 rfl hb noIdB_flat (args' := [sl 0 off n c, .func (.func 75) #[] #[]]) (by simp [renV, dep, optAll, idx, nbeq]) (go (by decide) ?_) fun _ => rfl
  rw [run74 _ _ _ (by simp)]
  have a := k82 0 off n c (h := [.cells cs 2 true own]) rfl hc hn
  have e := idx_any (l := l) n 0
  generalize idxL l n 0 = x at *
  rw [← e]
  by_cases h1 : 0 ≤ x <;>
  simp (maxSteps := 1000000) (disch := first | omega | decide | assumption | simp [scal]) [a, h1]
theorem k45 (hn : n ≤ 60) : callH LL 45 [sl b off n c] h = some ⟨iv (chkS l n), h, [b], []⟩ := by
  refine callH_1 rfl hb noIdB_flat (args' := [sl 0 off n c]) (by simp [renV, dep, optAll, idx, nbeq]) (go (by decide) ?_) fun _ => rfl
  rw [run45 _ _ _ (by simp)]
  unfold chkS
  by_cases h1 : n = 0
  · subst h1
    simp (maxSteps := 1000000) (disch := first | omega | decide | assumption | simp [scal]) [lenA_sl lk_22]
  have h1' : ¬ ((n : Int) = 0) := by omega
  by_cases h2 : 30 < n
  · have h2' : (30 : Int) < n := by omega
    simp (maxSteps := 1000000) (disch := first | omega | decide | assumption | simp [scal]) [lenA_sl lk_22, h1, h1', h2, h2']
  have h2' : ¬ (30 : Int) < n := by omega
  have a := k74 0 off n c (h := [.cells cs 2 true own]) rfl hc hn
  cases h3 : anyB l n 0 <;> rw [h3] at a
  · simp (maxSteps := 1000000) (disch := first | omega | decide | assumption | simp [scal]) [lenA_sl lk_22, h1, h1', h2, h2', a]
  · simp (maxSteps := 1000000) (disch := first | omega | decide | assumption | simp [scal]) [lenA_sl lk_22, h1, h1', h2, h2', a]
theorem k77 (i k : Nat) (hi : i < n) (hk : k < n) : callH LL 77 [sl b off n c, iv i, iv k] h = some ⟨.bool (quiet l i k), h, [b], []⟩ := by
  refine callH_1 rfl hb noIdB_flat (args' := [sl 0 off n c, iv i, iv k]) (by simp [renV, dep, optAll, idx, nbeq]) (go (by decide) ?_) fun _ => rfl
  rw [run77 _ _ _ (by simp)]
  obtain ⟨e1, e2⟩ := hc i hi
  obtain ⟨e3, e4⟩ := hc k hk
  by_cases h1 : (l i).2 < (l k).1 <;>
  simp (maxSteps := 1000000) (disch := first | omega | decide | assumption | simp [scal]) [o_indexAddrS es_78, o_fieldAddr fa_55_1 (by decide), loadA_eq ia_3, o_fieldAddr fa_55_0 (by decide), hi, hk, e1, e2, e3, e4, quiet, h1]
theorem k55 (i k : Nat) (hi : i < n) (hk : k < n) : callH LL 55 [sl b off n c, iv i, iv k] h = some ⟨.bool (quiet l i k), h, [b], []⟩ := by
  refine callH_1 rfl hb noIdB_flat (args' := [sl 0 off n c, iv i, iv k]) (by simp [renV, dep, optAll, idx, nbeq]) (go (by decide) ?_) fun _ => rfl
  rw [run55 _ _ _ (by simp)]
  obtain ⟨e1, e2⟩ := hc i hi
  obtain ⟨e3, e4⟩ := hc k hk
  by_cases h1 : (l i).2 < (l k).1 <;>
  simp (maxSteps := 1000000) (disch := first | omega | decide | assumption | simp [scal]) [o_indexAddrS es_22, o_fieldAddr fa_55_1 (by decide), loadA_eq ia_3, o_fieldAddr fa_55_0 (by decide), hi, hk, e1, e2, e3, e4, quiet, h1]
end
section
variable (off n c : Nat) (cs : List Value) (own : Bool) (l : Nat → Int × Int)
theorem l50 (hc : SpC cs off n l) (hn : n ≤ 60) : ∀ k i : Nat, i + k = n →
    lpB Try.prog LL ⟨50, 36, 1, none⟩ n50_22 n50_23 ⟨[(0, sl 0 off n c), (3, iv i)], [.cells cs 2 true own], []⟩ =
      if anyB l k i = false then some (.exit 0, ⟨[], [.cells cs 2 true own], []⟩) else some (.ret, ⟨[(2, iv 1)], [.cells cs 2 true own], []⟩) := by
  intro k
  induction k with
  | zero =>
    intro i hi
    obtain rfl : i = n := by omega
    rw [lpB_eq]
    simp (maxSteps := 1000000) (disch := first | omega | decide | assumption | simp [scal]) [lenA_sl lk_22, o_indexAddrS es_22, o_fieldAddr fa_55_0 (by decide), loadA_eq ia_3, o_fieldAddr fa_55_1 (by decide), want_some q50_32g12, anyB]
  | succ k ih =>
    intro i hi
    have e1 : i < n := by omega
    have e1' : (i : Int) < n := by omega
    have this := ih (i + 1) (by omega)
    obtain ⟨e2, e3⟩ := hc i e1
    obtain ⟨x, y, hxy⟩ : ∃ x y, l i = (x, y) := ⟨_, _, rfl⟩
    rw [hxy] at e2 e3
    unfold anyB
    rw [hxy]
    simp only [cast1] at this
    rw [lpB_eq]
    cases h1 : (decide (0 ≤ x) && decide (x ≤ y))
    · simp (maxSteps := 1000000) (disch := first | omega | decide | assumption | simp [scal]) [lenA_sl lk_22, o_indexAddrS es_22, o_fieldAddr fa_55_0 (by decide), loadA_eq ia_3, o_fieldAddr fa_55_1 (by decide), want_some q50_32g12, e1, e1', e2, e3, k58, h1, bad]
    · by_cases h2 : (100000 : Int) < y
      · simp (maxSteps := 1000000) (disch := first | omega | decide | assumption | simp [scal]) [lenA_sl lk_22, o_indexAddrS es_22, o_fieldAddr fa_55_0 (by decide), loadA_eq ia_3, o_fieldAddr fa_55_1 (by decide), want_some q50_32g12, e1, e1', e2, e3, k58, h1, h2, bad]
      · simp (maxSteps := 1000000) (disch := first | omega | decide | assumption | simp [scal]) [lenA_sl lk_22, o_indexAddrS es_22, o_fieldAddr fa_55_0 (by decide), loadA_eq ia_3, o_fieldAddr fa_55_1 (by decide), want_some q50_32g12, e1, e1', e2, e3, k58, h1, h2, bad, this]
end
section
variable (b off n c : Nat) {cs : List Value} {own : Bool} {l : Nat → Int × Int} {h : List Blk} (hb : h[b]? = some (.cells cs 2 true own)) (hc : SpC cs off n l)
include hb hc
theorem k50 (hn : n ≤ 60) : callH LL 50 [sl b off n c] h = some ⟨iv (chkS l n), h, [b], []⟩ := by
  refine callH_1 rfl hb noIdB_flat (args' := [sl 0 off n c]) (by simp [renV, dep, optAll, idx, nbeq]) (go (by decide) ?_) fun _ => rfl
  rw [run50 _ _ _ (by simp)]
  unfold chkS
  by_cases h1 : n = 0
  · subst h1
    simp (maxSteps := 1000000) (disch := first | omega | decide | assumption | simp [scal]) [lenA_sl lk_22, o_indexAddrS es_22, o_fieldAddr fa_55_0 (by decide), loadA_eq ia_3, o_fieldAddr fa_55_1 (by decide), want_some q50_32g12]
  have h1' : ¬ ((n : Int) = 0) := by omega
  by_cases h2 : 30 < n
  · have h2' : (30 : Int) < n := by omega
    simp (maxSteps := 1000000) (disch := first | omega | decide | assumption | simp [scal]) [lenA_sl lk_22, o_indexAddrS es_22, o_fieldAddr fa_55_0 (by decide), loadA_eq ia_3, o_fieldAddr fa_55_1 (by decide), want_some q50_32g12, h1, h1', h2, h2']
  have h2' : ¬ (30 : Int) < n := by omega
  have this := l50 off n c cs own l hc hn n 0 (by omega)
  simp only [Int.natCast_zero] at this
  cases h3 : anyB l n 0 <;> rw [h3] at this
  · simp (maxSteps := 1000000) (disch := first | omega | decide | assumption | simp [scal]) [lenA_sl lk_22, o_indexAddrS es_22, o_fieldAddr fa_55_0 (by decide), loadA_eq ia_3, o_fieldAddr fa_55_1 (by decide), want_some q50_32g12, h1, h1', h2, h2', this]
  · simp (maxSteps := 1000000) (disch := first | omega | decide | assumption | simp [scal]) [lenA_sl lk_22, o_indexAddrS es_22, o_fieldAddr fa_55_0 (by decide), loadA_eq ia_3, o_fieldAddr fa_55_1 (by decide), want_some q50_32g12, h1, h1', h2, h2', this]
end
end Go.Proofs.Ytfccmddkblbeoaa.rk
namespace Go.Proofs.Ytfccmddkblbeoaa.rk
open Go.GE
set_option linter.unusedVariables false
set_option linter.unusedSimpArgs false
set_option linter.unusedSectionVars false
set_option maxRecDepth 100000
set_option maxHeartbeats 4000000
attribute [local simp] runOps_nil runOps_cons runOpsF_nil runOpsF_cons fstS_some fstF_some opStep_eq want_none oStep_true oStep_false fin_pure fin_read fin_alloc fin_write storeB wrN cellV addWr o_move o_assign o_pick o_alloc o_box o_load o_store o_nilCheck o_bin o_un o_extract o_callV o_callB o_callI callV_f callV_y callV_fc o_makeFunc partsA Instr.fill builtin_len builtin_max2 bin_add bin_sub bin_mul bin_quo bin_rem bin_lss bin_leq bin_gtr bin_geq bin_eql bin_neq un_neg un_not bin_shr bin_shl wrap_u64_id opd opds optAll putO nbeq nblt constOk isC ops sub cl cr co bodyOf thenS_normal thenS_ret thenS_exit thenS_goto afterN_normal afterN_ret afterN_exit afterN_goto condS_true condS_false blockS_normal blockS_ret blockS_exit blockS_goto headS normS normK_eq fixS_nil fixS_cons fix1 fixV emptyB keepO_nil keepO_cons roundC_normal roundC_exit roundC_ret roundC_goto sweep_eq sweepD rnm pickR pickW rootsB ptrT renT ptrFn renFn ptrB_flat ptrB_non renB_flat renB_non plainS_some drawS_some fpsOk disj unord range' dropTo enumT undef wrap_i64_id Value.cells mkCells ptrTo scal cellsAt rdN endS_ret resultsA Option.bind_some tupV finish reachN dep ptrL_eq ptrL renL_eq renL ptrV_bool ptrV_int ptrV_string ptrV_nilFunc ptrV_nilIface ptrV_nilPtr ptrV_ptr ptrV_nilSl ptrV_sl ptrV_iface ptrV_agg ptrV_tuple ptrV_func renV_bool renV_int renV_string renV_nilFunc renV_nilIface renV_nilPtr renV_ptr renV_nilSl renV_sl renV_iface renV_agg renV_tuple renV_func gotoS_goto gotoS_normal gotoS_exit gotoS_ret skip_seq sliceE bnd bndHi intOf optOpd keepT_nil keepT_cons keepC_t keepC_f lk_nil lk_cons lkC_t lkC_f has_nil has_cons hasC_t hasC_f rep_nil rep_cons repC_t repC_f put_eq putC_t putC_f mem_nil mem_cons memC_t memC_f idx_nil idx_cons idxC_t idxC_f reach_nil reach_cons reachC_t reachC_f
attribute [local simp] n72_1s n72_4s n72_6s n72_9s n72_10s n72_8s n72_11s n72_7s n72_5s n72_3s n72_14s n72_17s n72_18s n72_16s n72_19s n72_15s n72_13s n72_21s n72_24s n72_28s n72_31s n72_32s n72_30s n72_36s n72_40s n72_43s n72_44s n72_42s n72_46s n72_49s n72_50s n72_48s n72_51s n72_47s n72_45s n72_41s n72_39s n72_38s n72_52s n72_37s n72_35s n72_34s n72_53s n72_33s n72_29s n72_27s n72_26s n72_26g n72_25s n72_23s n72_55s n72_56s n72_54s n72_22s n72_20s n72_12s n72_2s n72_0s Try.f72
abbrev wv (n : Nat) : Value := .int .u32 (n : Int)
theorem wrap_u32 {n : Nat} (h : n < 2 ^ 32) : IntKind.u32.wrap (n : Int) = n := by simp [IntKind.wrap, IntKind.bits, IntKind.signed]; omega
theorem bin_and1w {P : Program} {t : TypeId} {c : Bool} {w : Nat} (h : w < 2 ^ 32) : binA P .and t c (.int .u32 (w : Int)) (.int .u32 1) = some (.int .u32 ((w % 2 : Nat) : Int)) := by
  have e : (BitVec.ofInt 32 (w : Int) &&& BitVec.ofInt 32 1).toNat = w % 2 := by
    rw [BitVec.ofInt_natCast]
    rw [show BitVec.ofInt 32 1 = BitVec.ofNat 32 1 from rfl, BitVec.toNat_and, BitVec.toNat_ofNat, BitVec.toNat_ofNat, Nat.mod_eq_of_lt h, Nat.mod_eq_of_lt (by decide : 1 < 2 ^ 32), Nat.and_one_is_mod]
  have e' : IntKind.u32.wrap ((BitVec.ofInt 32 (w : Int) &&& BitVec.ofInt 32 1).toNat : Int) = ((w % 2 : Nat) : Int) := by rw [e]; exact wrap_u32 (by omega)
  show some (Value.int .u32 (IntKind.u32.wrap ((BitVec.ofInt 32 (w : Int) &&& BitVec.ofInt 32 1).toNat : Int))) = _
  rw [e']
theorem bin_orw {P : Program} {t : TypeId} {c : Bool} {w v : Nat} (h : w < 2 ^ 32) (h' : v < 2 ^ 32) : binA P .or t c (.int .u32 (w : Int)) (.int .u32 (v : Int)) = some (.int .u32 ((w ||| v : Nat) : Int)) := by
  have hl : w ||| v < 2 ^ 32 := Nat.or_lt_two_pow h h'
  have e : (BitVec.ofInt 32 (w : Int) ||| BitVec.ofInt 32 (v : Int)).toNat = w ||| v := by
    rw [BitVec.ofInt_natCast, BitVec.ofInt_natCast, BitVec.toNat_or, BitVec.toNat_ofNat, BitVec.toNat_ofNat, Nat.mod_eq_of_lt h, Nat.mod_eq_of_lt h']
  have e' : IntKind.u32.wrap ((BitVec.ofInt 32 (w : Int) ||| BitVec.ofInt 32 (v : Int)).toNat : Int) = ((w ||| v : Nat) : Int) := by rw [e]; exact wrap_u32 hl
  show some (Value.int .u32 (IntKind.u32.wrap ((BitVec.ofInt 32 (w : Int) ||| BitVec.ofInt 32 (v : Int)).toNat : Int))) = _
  rw [e']
theorem fdiv_poww {w i : Nat} (hi : i < 32) : ((w : Int).fdiv (2 ^ min i IntKind.u32.bits)) = ((w / 2 ^ i : Nat) : Int) := by
  rw [show min i IntKind.u32.bits = i from Nat.min_eq_left (Nat.le_of_lt hi), Int.fdiv_eq_ediv_of_nonneg _ (by exact_mod_cast Nat.zero_le _)]
  simp
theorem shl_poww {J : Nat} (hJ : J < 32) : IntKind.u32.wrap (2 ^ min J IntKind.u32.bits) = ((2 ^ J : Nat) : Int) := by
  rw [show min J IntKind.u32.bits = J from Nat.min_eq_left (Nat.le_of_lt hJ), show ((2 : Int) ^ J) = ((2 ^ J : Nat) : Int) by simp]
  exact wrap_u32 (Nat.pow_lt_pow_right (by decide) hJ)
/-- whether a number stands among the k places from j on -/
def seenK (o : Nat → Int) (x : Int) : Nat → Nat → Bool
  | 0, _ => false
  | k + 1, j => decide (o j = x) || seenK o x k (j + 1)
theorem seen_iff {o : Nat → Int} {x : Int} : ∀ k j, seenK o x k j = true ↔ ∃ p, j ≤ p ∧ p < j + k ∧ o p = x := by
  intro k
  induction k with
  | zero => intro j; simp only [seenK, Bool.false_eq_true, false_iff]; rintro ⟨p, h1, h2, _⟩; omega
  | succ k ih =>
    intro j
    simp only [seenK, Bool.or_eq_true, decide_eq_true_eq, ih]
    constructor
    · rintro (h | ⟨p, h1, h2, h3⟩)
      · exact ⟨j, by omega, by omega, h⟩
      · exact ⟨p, by omega, by omega, h3⟩
    · rintro ⟨p, h1, h2, h3⟩
      by_cases hp : p = j
      · subst hp; exact .inl h3
      · exact .inr ⟨p, by omega, by omega, h3⟩
/-- the days met so far, as bits -/
def maskN (o : Nat → Int) : Nat → Nat
  | 0 => 0
  | i + 1 => maskN o i ||| 2 ^ (o i).toNat
theorem mask_bit {o : Nat → Int} {x : Nat} : ∀ {i}, (∀ j, j < i → 0 ≤ o j) → (maskN o i).testBit x = seenK o x i 0 := by
  intro i h
  apply Bool.eq_iff_iff.2
  rw [seen_iff]
  induction i with
  | zero => simp [maskN]
  | succ i ih =>
    have h0 := h i (by omega)
    have ih := ih fun j hj => h j (by omega)
    simp only [maskN, Nat.testBit_or, Bool.or_eq_true, Nat.testBit_two_pow, decide_eq_true_eq]
    rw [ih]
    constructor
    · rintro (⟨p, h1, h2, h3⟩ | h3)
      · exact ⟨p, by omega, by omega, h3⟩
      · exact ⟨i, by omega, by omega, by omega⟩
    · rintro ⟨p, h1, h2, h3⟩
      by_cases hp : p = i
      · subst hp; exact .inr (by omega)
      · exact .inl ⟨p, by omega, by omega, h3⟩
theorem mask_lt {o : Nat → Int} : ∀ {i}, (∀ j, j < i → 0 ≤ o j ∧ o j < 30) → maskN o i < 2 ^ 30 := by
  intro i
  induction i with
  | zero => intro _; simp [maskN]
  | succ i ih =>
    intro h
    have h0 := h i (by omega)
    exact Nat.or_lt_two_pow (ih fun j hj => h j (by omega)) (Nat.pow_lt_pow_right (by decide) (by omega))
/-- what is wrong with an order, from the i-th day on -/
def ordL (o : Nat → Int) (n : Nat) : Nat → Nat → Int
  | 0, _ => 0
  | k + 1, i => if (decide (0 ≤ o i) && decide (o i ≤ (n : Int) - 1)) = false then 6 else if seenK o (o i) i 0 = true then 7 else ordL o n k (i + 1)
def ordS (l : Nat → Int × Int) (n : Nat) (o : Nat → Int) (m : Nat) : Int := if chkS l n ≠ 0 then chkS l n else if m ≠ n then 4 else ordL o n m 0
section
variable (off n c off2 m c2 : Nat) (cs cs2 : List Value) (own own2 : Bool) (l : Nat → Int × Int) (o : Nat → Int)
theorem l72 (hc2 : InC cs2 off2 m o) (hn : n ≤ 30) (hm : m = n) : ∀ k i : Nat, i + k = m → (∀ j, j < i → 0 ≤ o j ∧ o j < n) →
    lpB Try.prog LL ⟨72, 43, 2, none⟩ n72_26 n72_27 ⟨[(0, sl 0 off n c), (6, wv (maskN o i)), (19, sl 1 off2 m c2), (20, iv m), (21, iv i)], [.cells cs 2 true own, .cells cs2 1 true own2], []⟩ =
      if ordL o n k i = 0 then some (.exit 0, ⟨[], [.cells cs 2 true own, .cells cs2 1 true own2], []⟩) else some (.ret, ⟨[(4, iv (ordL o n k i))], [.cells cs 2 true own, .cells cs2 1 true own2], []⟩) := by
  intro k
  induction k with
  | zero =>
    intro i hi hj
    obtain rfl : i = m := by omega
    generalize maskN o i = M
    rw [lpB_eq]
    simp (maxSteps := 1000000) (disch := first | omega | decide | assumption | simp [scal]) [lenA_sl lk_24, lenA_sl lk_78, o_indexAddrS es_24, loadA_eq ia_3, ordL]
  | succ k ih =>
    intro i hi hj
    have e1 : i < m := by omega
    have e1' : (i : Int) < m := by omega
    have e2 := hc2 i e1
    have hb := fun x => @mask_bit o x i fun j h => (hj j h).1
    have hl := @mask_lt o i fun j h => by have := hj j h; omega
    unfold ordL
    by_cases h1 : 0 ≤ o i ∧ o i ≤ (n : Int) - 1
    · have this := ih (i + 1) (by omega) (fun j h => by
        by_cases hj' : j = i
        · subst hj'; omega
        · exact hj j (by omega))
      obtain ⟨h1, h2⟩ := h1
      obtain ⟨x, hx⟩ : ∃ x : Nat, o i = x := ⟨(o i).toNat, by omega⟩
      have hb := hb x
      rw [show maskN o (i + 1) = maskN o i ||| 2 ^ (o i).toNat from rfl] at this
      rw [hx] at e2 h1 h2 this ⊢
      rw [Int.toNat_natCast] at this
      generalize maskN o i = M at *
      generalize seenK o (x : Int) i 0 = s at *
      have f1 := @fdiv_poww M x (by omega)
      have hq : M / 2 ^ x < 2 ^ 32 := by have := Nat.div_le_self M (2 ^ x); omega
      have f2 := fun c => @bin_and1w Try.prog 76 c _ hq
      have f3 := @shl_poww x (by omega)
      have p1 : 2 ^ x < 2 ^ 32 := Nat.pow_lt_pow_right (by decide) (by omega)
      have f4 := fun c => @bin_orw Try.prog 76 c M (2 ^ x) (by omega) p1
      rw [Nat.testBit_eq_decide_div_mod_eq] at hb
      generalize ((2 ^ x : Nat) : Int) = Q at *
      generalize M / 2 ^ x = q at *
      simp only [cast1] at this
      rw [lpB_eq]
      cases s
      · have hb' : ¬ (q : Int) % 2 = 1 := by have := of_decide_eq_false hb; omega
        simp (maxSteps := 1000000) (disch := first | omega | decide | assumption | simp [scal]) [lenA_sl lk_24, lenA_sl lk_78, o_indexAddrS es_24, loadA_eq ia_3, e1, e1', e2, h1, h2, k57, f1, f2, f3, f4, hb', this]
      · have hb' : (q : Int) % 2 = 1 := by have := of_decide_eq_true hb; omega
        have hb'' := eq_true hb'
        simp (maxSteps := 1000000) (disch := first | omega | decide | assumption | simp [scal]) [lenA_sl lk_24, lenA_sl lk_78, o_indexAddrS es_24, loadA_eq ia_3, e1, e1', e2, h1, h2, k57, f1, f2, f3, f4, hb'']
    · have h1' : (decide (0 ≤ o i) && decide (o i ≤ (n : Int) - 1)) = false := by
        simp only [Bool.and_eq_false_iff, decide_eq_false_iff_not]; omega
      generalize maskN o i = M at *
      rw [lpB_eq]
      simp (maxSteps := 1000000) (disch := first | omega | decide | assumption | simp [scal]) [lenA_sl lk_24, lenA_sl lk_78, o_indexAddrS es_24, loadA_eq ia_3, e1, e1', e2, h1', k57]
end
theorem so_ren {b off n c b2 off2 m c2 : Nat} {vs : List Value} (hne : b ≠ b2) (hv : vs.all scal = true) : optAll (renV (idx [b, b2]) dep) (sl b off n c :: sl b2 off2 m c2 :: vs) = some (sl 0 off n c :: sl 1 off2 m c2 :: vs) := by
  have e1 : renV (idx [b, b2]) dep (sl b off n c) = some (sl 0 off n c) := by simp [renV, dep, idx, nbeq]
  have e2 : renV (idx [b, b2]) dep (sl b2 off2 m c2) = some (sl 1 off2 m c2) := by simp [renV, dep, idx, nbeq, hne, hne.symm]
  have e3 : ∀ vs : List Value, vs.all scal = true → optAll (renV (idx [b, b2]) dep) vs = some vs := by
    intro vs hv
    induction vs with
    | nil => rfl
    | cons v vs ih =>
      simp only [List.all_cons, Bool.and_eq_true] at hv
      have e : renV (idx [b, b2]) dep v = some v := by cases v <;> simp [scal] at hv <;> rfl
      simp only [optAll, e, ih hv.2]
  simp only [optAll, e1, e2, e3 vs hv]
section
variable (b off n c b2 off2 m c2 : Nat) {cs cs2 : List Value} {own own2 : Bool} {l : Nat → Int × Int} {o : Nat → Int} {h : List Blk}
  (hb : h[b]? = some (.cells cs 2 true own)) (hb2 : h[b2]? = some (.cells cs2 1 true own2)) (hne : b ≠ b2) (hc : SpC cs off n l) (hc2 : InC cs2 off2 m o)
include hb hb2 hne hc hc2
theorem k72 (hn : n ≤ 60) : callH LL 72 [sl b off n c, sl b2 off2 m c2] h = some ⟨iv (ordS l n o m), h, [b, b2], []⟩ := by
  refine callH_2 rfl hb hb2 hne noIdB_flat noIdB_flat (so_ren hne rfl) (go (by decide) ?_) fun _ => rfl
  rw [run72 _ _ _ (by simp)]
  have a := fun bx => k45 0 off n c (h := .cells cs 2 true own :: bx) rfl hc hn
  unfold ordS
  by_cases h1 : chkS l n = 0
  · have n30 : n ≤ 30 := by
      unfold chkS at h1
      by_cases h0 : n = 0
      · omega
      · rw [if_neg h0] at h1
        by_cases h2 : 30 < n
        · rw [if_pos h2] at h1; omega
        · omega
    rw [h1] at a
    by_cases h2 : m = n
    · have this := l72 off n c off2 m c2 cs cs2 own own2 o hc2 n30 h2 m 0 (by omega) (fun j hj => by omega)
      have h2' : (m : Int) = n := by omega
      rw [show maskN o 0 = 0 from rfl, show wv 0 = .int .u32 0 from rfl] at this
      simp only [Int.natCast_zero] at this
      by_cases h3 : ordL o n m 0 = 0
      · rw [if_pos h3] at this
        subst h2
        simp (maxSteps := 1000000) (disch := first | omega | decide | assumption | simp [scal]) [lenA_sl lk_24, lenA_sl lk_78, o_indexAddrS es_24, loadA_eq ia_3, a, h1, h3, this]
      · rw [if_neg h3] at this
        subst h2
        simp (maxSteps := 1000000) (disch := first | omega | decide | assumption | simp [scal]) [lenA_sl lk_24, lenA_sl lk_78, o_indexAddrS es_24, loadA_eq ia_3, a, h1, h3, this]
    · have h2' : ¬ (m : Int) = n := by omega
      simp (maxSteps := 1000000) (disch := first | omega | decide | assumption | simp [scal]) [lenA_sl lk_24, lenA_sl lk_78, o_indexAddrS es_24, loadA_eq ia_3, a, h1, h2, h2']
  · simp (maxSteps := 1000000) (disch := first | omega | decide | assumption | simp [scal]) [lenA_sl lk_24, lenA_sl lk_78, o_indexAddrS es_24, loadA_eq ia_3, a, h1]
end
end Go.Proofs.Ytfccmddkblbeoaa.rk
namespace Go.Proofs.Ytfccmddkblbeoaa.rk
open Go.GE
set_option linter.unusedVariables false
set_option linter.unusedSimpArgs false
set_option linter.unusedSectionVars false
set_option maxRecDepth 100000
set_option maxHeartbeats 4000000
attribute [local simp] runOps_nil runOps_cons runOpsF_nil runOpsF_cons fstS_some fstF_some opStep_eq want_none oStep_true oStep_false fin_pure fin_read fin_alloc fin_write storeB wrN cellV addWr o_move o_assign o_pick o_alloc o_box o_load o_store o_nilCheck o_bin o_un o_extract o_callV o_callB o_callI callV_f callV_y callV_fc o_makeFunc partsA Instr.fill builtin_len builtin_max2 bin_add bin_sub bin_mul bin_quo bin_rem bin_lss bin_leq bin_gtr bin_geq bin_eql bin_neq un_neg un_not bin_shr bin_shl wrap_u64_id opd opds optAll putO nbeq nblt constOk isC ops sub cl cr co bodyOf thenS_normal thenS_ret thenS_exit thenS_goto afterN_normal afterN_ret afterN_exit afterN_goto condS_true condS_false blockS_normal blockS_ret blockS_exit blockS_goto headS normS normK_eq fixS_nil fixS_cons fix1 fixV emptyB keepO_nil keepO_cons roundC_normal roundC_exit roundC_ret roundC_goto sweep_eq sweepD rnm pickR pickW rootsB ptrT renT ptrFn renFn ptrB_flat ptrB_non renB_flat renB_non plainS_some drawS_some fpsOk disj unord range' dropTo enumT undef wrap_i64_id Value.cells mkCells ptrTo scal cellsAt rdN endS_ret resultsA Option.bind_some tupV finish reachN dep ptrL_eq ptrL renL_eq renL ptrV_bool ptrV_int ptrV_string ptrV_nilFunc ptrV_nilIface ptrV_nilPtr ptrV_ptr ptrV_nilSl ptrV_sl ptrV_iface ptrV_agg ptrV_tuple ptrV_func renV_bool renV_int renV_string renV_nilFunc renV_nilIface renV_nilPtr renV_ptr renV_nilSl renV_sl renV_iface renV_agg renV_tuple renV_func gotoS_goto gotoS_normal gotoS_exit gotoS_ret skip_seq sliceE bnd bndHi intOf optOpd keepT_nil keepT_cons keepC_t keepC_f lk_nil lk_cons lkC_t lkC_f has_nil has_cons hasC_t hasC_f rep_nil rep_cons repC_t repC_f put_eq putC_t putC_f mem_nil mem_cons memC_t memC_f idx_nil idx_cons idxC_t idxC_f reach_nil reach_cons reachC_t reachC_f
attribute [local simp] n76_1s n76_3s n76_6s n76_9s n76_10s n76_8s n76_11s n76_7s n76_5s n76_14s n76_17s n76_18s n76_16s n76_19s n76_15s n76_13s n76_22s n76_27s n76_29s n76_30s n76_28s n76_26s n76_35s n76_38s n76_39s n76_37s n76_40s n76_36s n76_34s n76_42s n76_47s n76_49s n76_50s n76_48s n76_46s n76_54s n76_57s n76_58s n76_56s n76_59s n76_55s n76_53s n76_52s n76_60s n76_51s n76_45s n76_44s n76_44g n76_43s n76_41s n76_33s n76_32s n76_61s n76_31s n76_25s n76_24s n76_24g n76_23s n76_21s n76_63s n76_64s n76_62s n76_20s n76_12s n76_4s n76_2s n76_0s Try.f76 n73_1s n73_4s n73_8s n73_11s n73_12s n73_10s n73_16s n73_18s n73_23s n73_25s n73_26s n73_24s n73_22s n73_30s n73_33s n73_34s n73_32s n73_35s n73_31s n73_29s n73_28s n73_36s n73_27s n73_21s n73_20s n73_20g n73_19s n73_17s n73_15s n73_14s n73_37s n73_13s n73_9s n73_7s n73_6s n73_6g n73_5s n73_3s n73_39s n73_40s n73_38s n73_2s n73_0s Try.f73 n46_1s n46_3s n46_6s n46_9s n46_10s n46_8s n46_11s n46_7s n46_5s n46_14s n46_19s n46_21s n46_22s n46_20s n46_18s n46_26s n46_31s n46_33s n46_34s n46_32s n46_30s n46_38s n46_41s n46_42s n46_40s n46_43s n46_39s n46_37s n46_36s n46_44s n46_35s n46_29s n46_28s n46_28g n46_27s n46_25s n46_24s n46_45s n46_23s n46_17s n46_16s n46_16g n46_15s n46_13s n46_47s n46_48s n46_46s n46_12s n46_4s n46_2s n46_0s Try.f46 n42_1s n42_4s n42_6s n42_9s n42_10s n42_8s n42_11s n42_7s n42_5s n42_3s n42_13s n42_16s n42_19s n42_20s n42_18s n42_21s n42_17s n42_15s n42_23s n42_24s n42_22s n42_14s n42_12s n42_2s n42_0s Try.f42
section
variable (off n c off2 m c2 : Nat) (cs cs2 : List Value) (own own2 : Bool) (l : Nat → Int × Int) (o : Nat → Int)
theorem l76i (hc2 : InC cs2 off2 m o) (hm : m ≤ 60) (i : Nat) (hi : i < m) : ∀ k j : Nat, j + k = i →
    lpB Try.prog LL ⟨76, 47, 2, none⟩ n76_44 n76_45 ⟨[(7, iv j), (0, sl 0 off n c), (1, sl 1 off2 m c2), (6, iv i)], [.cells cs 2 true own, .cells cs2 1 true own2], []⟩ =
      if seenK o (o i) k j = false then some (.exit 2, ⟨[(0, sl 0 off n c), (1, sl 1 off2 m c2), (6, iv i)], [.cells cs 2 true own, .cells cs2 1 true own2], []⟩) else some (.ret, ⟨[(4, iv 7)], [.cells cs 2 true own, .cells cs2 1 true own2], []⟩) := by
  intro k
  induction k with
  | zero =>
    intro j hj
    obtain rfl : j = i := by omega
    rw [lpB_eq]
    simp (maxSteps := 1000000) (disch := first | omega | decide | assumption | simp [scal]) [lenA_sl lk_24, lenA_sl lk_22, o_indexAddrS es_24, loadA_eq ia_3, seenK]
  | succ k ih =>
    intro j hj
    have e1 : j < i := by omega
    have e1' : (j : Int) < i := by omega
    have e2 : j < m := by omega
    have e3 := hc2 j e2
    have e4 := hc2 i hi
    have this := ih (j + 1) (by omega)
    unfold seenK
    simp only [cast1] at this
    generalize o j = x at *
    generalize o i = y at *
    rw [lpB_eq]
    by_cases h1 : x = y
    · subst h1
      simp (maxSteps := 1000000) (disch := first | omega | decide | assumption | simp [scal]) [lenA_sl lk_24, lenA_sl lk_22, o_indexAddrS es_24, loadA_eq ia_3, e1, e1', e2, e3, e4, hi]
    · simp (maxSteps := 1000000) (disch := first | omega | decide | assumption | simp [scal]) [lenA_sl lk_24, lenA_sl lk_22, o_indexAddrS es_24, loadA_eq ia_3, e1, e1', e2, e3, e4, hi, h1, this]
theorem l76 (hc2 : InC cs2 off2 m o) (hm : m ≤ 60) (hn : n ≤ 60) : ∀ k i : Nat, i + k = m →
    lpB Try.prog LL ⟨76, 47, 2, none⟩ n76_24 n76_25 ⟨[(0, sl 0 off n c), (1, sl 1 off2 m c2), (6, iv i)], [.cells cs 2 true own, .cells cs2 1 true own2], []⟩ =
      if ordL o n k i = 0 then some (.exit 0, ⟨[], [.cells cs 2 true own, .cells cs2 1 true own2], []⟩) else some (.ret, ⟨[(4, iv (ordL o n k i))], [.cells cs 2 true own, .cells cs2 1 true own2], []⟩) := by
  intro k
  induction k with
  | zero =>
    intro i hi
    obtain rfl : i = m := by omega
    rw [lpB_eq]
    simp (maxSteps := 1000000) (disch := first | omega | decide | assumption | simp [scal]) [lenA_sl lk_24, lenA_sl lk_22, o_indexAddrS es_24, loadA_eq ia_3, ordL]
  | succ k ih =>
    intro i hi
    have e1 : i < m := by omega
    have e1' : (i : Int) < m := by omega
    have e2 := hc2 i e1
    have this := ih (i + 1) (by omega)
    have inn := l76i off n c off2 m c2 cs cs2 own own2 o hc2 hm i e1 i 0 (by omega)
    simp only [Int.natCast_zero] at inn
    unfold ordL
    simp only [cast1] at this
    generalize o i = x at *
    generalize seenK o x i 0 = s at *
    rw [lpB_eq]
    cases h1 : (decide (0 ≤ x) && decide (x ≤ (n : Int) - 1))
    · simp (maxSteps := 1000000) (disch := first | omega | decide | assumption | simp [scal]) [lenA_sl lk_24, lenA_sl lk_22, o_indexAddrS es_24, loadA_eq ia_3, e1, e1', e2, k58, h1]
    · cases s
      · simp only [if_pos rfl] at inn
        simp (maxSteps := 1000000) (disch := first | omega | decide | assumption | simp [scal]) [lenA_sl lk_24, lenA_sl lk_22, o_indexAddrS es_24, loadA_eq ia_3, e1, e1', e2, k58, h1, inn, this]
      · rw [if_neg (by decide)] at inn
        simp (maxSteps := 1000000) (disch := first | omega | decide | assumption | simp [scal]) [lenA_sl lk_24, lenA_sl lk_22, o_indexAddrS es_24, loadA_eq ia_3, e1, e1', e2, k58, h1, inn]
end
section
variable (b off n c b2 off2 m c2 : Nat) {cs cs2 : List Value} {own own2 : Bool} {l : Nat → Int × Int} {o : Nat → Int} {h : List Blk}
  (hb : h[b]? = some (.cells cs 2 true own)) (hb2 : h[b2]? = some (.cells cs2 1 true own2)) (hne : b ≠ b2) (hc : SpC cs off n l) (hc2 : InC cs2 off2 m o)
include hb hb2 hne hc hc2
theorem k76 (hn : n ≤ 60) : callH LL 76 [sl b off n c, sl b2 off2 m c2] h = some ⟨iv (ordS l n o m), h, [b, b2], []⟩ := by
  refine callH_2 rfl hb hb2 hne noIdB_flat noIdB_flat (so_ren hne rfl) (go (by decide) ?_) fun _ => rfl
  rw [run76 _ _ _ (by simp)]
  have a := fun bx => k50 0 off n c (h := .cells cs 2 true own :: bx) rfl hc hn
  unfold ordS
  by_cases h1 : chkS l n = 0
  · rw [h1] at a
    by_cases h2 : m = n
    · have this := l76 off n c off2 m c2 cs cs2 own own2 o hc2 (by omega) hn m 0 (by omega)
      simp only [Int.natCast_zero] at this
      by_cases h3 : ordL o n m 0 = 0
      · rw [if_pos h3] at this
        subst h2
        simp (maxSteps := 1000000) (disch := first | omega | decide | assumption | simp [scal]) [lenA_sl lk_24, lenA_sl lk_22, o_indexAddrS es_24, loadA_eq ia_3, a, h1, h3, this]
      · rw [if_neg h3] at this
        subst h2
        simp (maxSteps := 1000000) (disch := first | omega | decide | assumption | simp [scal]) [lenA_sl lk_24, lenA_sl lk_22, o_indexAddrS es_24, loadA_eq ia_3, a, h1, h3, this]
    · have h2' : ¬ (m : Int) = n := by omega
      simp (maxSteps := 1000000) (disch := first | omega | decide | assumption | simp [scal]) [lenA_sl lk_24, lenA_sl lk_22, o_indexAddrS es_24, loadA_eq ia_3, a, h1, h2, h2']
  · simp (maxSteps := 1000000) (disch := first | omega | decide | assumption | simp [scal]) [lenA_sl lk_24, lenA_sl lk_22, o_indexAddrS es_24, loadA_eq ia_3, a, h1]
end
/-- the place q of a fault at p -/
def fltQ (l : Nat → Int × Int) (o : Nat → Int) (p : Nat) : Nat → Nat → Option Nat
  | 0, _ => none
  | k + 1, q => if quiet l (o q).toNat (o p).toNat = true then some q else fltQ l o p k (q + 1)
def fltP (l : Nat → Int × Int) (o : Nat → Int) (m : Nat) : Nat → Nat → Option (Nat × Nat)
  | 0, _ => none
  | k + 1, p => match fltQ l o p (m - (p + 1)) (p + 1) with
    | some q => some (p, q)
    | none => fltP l o m k (p + 1)
section
variable (off n c off2 m c2 : Nat) (cs cs2 : List Value) (own own2 : Bool) (l : Nat → Int × Int) (o : Nat → Int)
  (hc : SpC cs off n l) (hc2 : InC cs2 off2 m o) (hm : m ≤ 60) (ho : ∀ j, j < m → 0 ≤ o j ∧ o j < n)
include hc hc2 hm ho
theorem l73i (p : Nat) (hp : p < m) : ∀ k q : Nat, q + k = m →
    lpB Try.prog LL ⟨73, 35, 2, none⟩ n73_20 n73_21 ⟨[(7, iv p), (8, iv q), (0, sl 0 off n c), (1, sl 1 off2 m c2), (10, iv m), (11, iv p)], [.cells cs 2 true own, .cells cs2 1 true own2], []⟩ =
      match fltQ l o p k q with
      | none => some (.exit 2, ⟨[(0, sl 0 off n c), (1, sl 1 off2 m c2), (10, iv m), (11, iv p)], [.cells cs 2 true own, .cells cs2 1 true own2], []⟩)
      | some q' => some (.ret, ⟨[(4, iv p), (5, iv q'), (6, .bool true)], [.cells cs 2 true own, .cells cs2 1 true own2], []⟩) := by
  intro k
  induction k with
  | zero =>
    intro q hq
    obtain rfl : q = m := by omega
    rw [lpB_eq]
    simp (maxSteps := 1000000) (disch := first | omega | decide | assumption | simp [scal]) [lenA_sl lk_24, o_indexAddrS es_24, loadA_eq ia_3, fltQ]
  | succ k ih =>
    intro q hq
    have e1 : q < m := by omega
    have e1' : (q : Int) < m := by omega
    have e3 := hc2 q e1
    have e4 := hc2 p hp
    have this := ih (q + 1) (by omega)
    obtain ⟨x, hx⟩ : ∃ x : Nat, o q = x := ⟨(o q).toNat, by have := ho q e1; omega⟩
    obtain ⟨y, hy⟩ : ∃ y : Nat, o p = y := ⟨(o p).toNat, by have := ho p hp; omega⟩
    have a := fun bx => k77 0 off n c (h := .cells cs 2 true own :: bx) rfl hc x y (by have := ho q e1; omega) (by have := ho p hp; omega)
    unfold fltQ
    simp only [cast1] at this
    rw [hx] at e3
    rw [hy] at e4
    rw [hx, hy, Int.toNat_natCast, Int.toNat_natCast]
    rw [lpB_eq]
    cases h1 : quiet l x y <;> rw [h1] at a
    · simp (maxSteps := 1000000) (disch := first | omega | decide | assumption | simp [scal]) [lenA_sl lk_24, o_indexAddrS es_24, loadA_eq ia_3, e1, e1', e3, e4, hp, a, this]
    · simp (maxSteps := 1000000) (disch := first | omega | decide | assumption | simp [scal]) [lenA_sl lk_24, o_indexAddrS es_24, loadA_eq ia_3, e1, e1', e3, e4, hp, a]
theorem l73 : ∀ k p : Nat, p + k = m →
    lpB Try.prog LL ⟨73, 35, 2, none⟩ n73_6 n73_7 ⟨[(0, sl 0 off n c), (1, sl 1 off2 m c2), (10, iv m), (11, iv p)], [.cells cs 2 true own, .cells cs2 1 true own2], []⟩ =
      match fltP l o m k p with
      | none => some (.exit 0, ⟨[], [.cells cs 2 true own, .cells cs2 1 true own2], []⟩)
      | some r => some (.ret, ⟨[(4, iv r.1), (5, iv r.2), (6, .bool true)], [.cells cs 2 true own, .cells cs2 1 true own2], []⟩) := by
  intro k
  induction k with
  | zero =>
    intro p hp
    obtain rfl : p = m := by omega
    rw [lpB_eq]
    simp (maxSteps := 1000000) (disch := first | omega | decide | assumption | simp [scal]) [lenA_sl lk_24, o_indexAddrS es_24, loadA_eq ia_3, fltP]
  | succ k ih =>
    intro p hp
    have e1 : p < m := by omega
    have e1' : (p : Int) < m := by omega
    have this := ih (p + 1) (by omega)
    have inn := l73i off n c off2 m c2 cs cs2 own own2 l o hc hc2 hm ho p e1 (m - (p + 1)) (p + 1) (by omega)
    unfold fltP
    simp only [cast1] at this inn
    rw [lpB_eq]
    cases h1 : fltQ l o p (m - (p + 1)) (p + 1) with
    | none =>
      rw [h1] at inn
      simp (maxSteps := 1000000) (disch := first | omega | decide | assumption | simp [scal]) [lenA_sl lk_24, o_indexAddrS es_24, loadA_eq ia_3, e1, e1', inn, this]
    | some q =>
      rw [h1] at inn
      simp (maxSteps := 1000000) (disch := first | omega | decide | assumption | simp [scal]) [lenA_sl lk_24, o_indexAddrS es_24, loadA_eq ia_3, e1, e1', inn]
theorem l46i (p : Nat) (hp : p < m) : ∀ k q : Nat, q + k = m →
    lpB Try.prog LL ⟨46, 42, 2, none⟩ n46_28 n46_29 ⟨[(9, iv q), (0, sl 0 off n c), (1, sl 1 off2 m c2), (8, iv p)], [.cells cs 2 true own, .cells cs2 1 true own2], []⟩ =
      match fltQ l o p k q with
      | none => some (.exit 2, ⟨[(0, sl 0 off n c), (1, sl 1 off2 m c2), (8, iv p)], [.cells cs 2 true own, .cells cs2 1 true own2], []⟩)
      | some q' => some (.ret, ⟨[(4, iv p), (5, iv q'), (6, iv 0)], [.cells cs 2 true own, .cells cs2 1 true own2], []⟩) := by
  intro k
  induction k with
  | zero =>
    intro q hq
    obtain rfl : q = m := by omega
    rw [lpB_eq]
    simp (maxSteps := 1000000) (disch := first | omega | decide | assumption | simp [scal]) [lenA_sl lk_24, o_indexAddrS es_24, loadA_eq ia_3, fltQ]
  | succ k ih =>
    intro q hq
    have e1 : q < m := by omega
    have e1' : (q : Int) < m := by omega
    have e3 := hc2 q e1
    have e4 := hc2 p hp
    have this := ih (q + 1) (by omega)
    obtain ⟨x, hx⟩ : ∃ x : Nat, o q = x := ⟨(o q).toNat, by have := ho q e1; omega⟩
    obtain ⟨y, hy⟩ : ∃ y : Nat, o p = y := ⟨(o p).toNat, by have := ho p hp; omega⟩
    have a := fun bx => k55 0 off n c (h := .cells cs 2 true own :: bx) rfl hc x y (by have := ho q e1; omega) (by have := ho p hp; omega)
    unfold fltQ
    simp only [cast1] at this
    rw [hx] at e3
    rw [hy] at e4
    rw [hx, hy, Int.toNat_natCast, Int.toNat_natCast]
    rw [lpB_eq]
    cases h1 : quiet l x y <;> rw [h1] at a
    · simp (maxSteps := 1000000) (disch := first | omega | decide | assumption | simp [scal]) [lenA_sl lk_24, o_indexAddrS es_24, loadA_eq ia_3, e1, e1', e3, e4, hp, a, this]
    · simp (maxSteps := 1000000) (disch := first | omega | decide | assumption | simp [scal]) [lenA_sl lk_24, o_indexAddrS es_24, loadA_eq ia_3, e1, e1', e3, e4, hp, a]
theorem l46 : ∀ k p : Nat, p + k = m →
    lpB Try.prog LL ⟨46, 42, 2, none⟩ n46_16 n46_17 ⟨[(0, sl 0 off n c), (1, sl 1 off2 m c2), (8, iv p)], [.cells cs 2 true own, .cells cs2 1 true own2], []⟩ =
      match fltP l o m k p with
      | none => some (.exit 0, ⟨[], [.cells cs 2 true own, .cells cs2 1 true own2], []⟩)
      | some r => some (.ret, ⟨[(4, iv r.1), (5, iv r.2), (6, iv 0)], [.cells cs 2 true own, .cells cs2 1 true own2], []⟩) := by
  intro k
  induction k with
  | zero =>
    intro p hp
    obtain rfl : p = m := by omega
    rw [lpB_eq]
    simp (maxSteps := 1000000) (disch := first | omega | decide | assumption | simp [scal]) [lenA_sl lk_24, o_indexAddrS es_24, loadA_eq ia_3, fltP]
  | succ k ih =>
    intro p hp
    have e1 : p < m := by omega
    have e1' : (p : Int) < m := by omega
    have this := ih (p + 1) (by omega)
    have inn := l46i off n c off2 m c2 cs cs2 own own2 l o hc hc2 hm ho p e1 (m - (p + 1)) (p + 1) (by omega)
    unfold fltP
    simp only [cast1] at this inn
    rw [lpB_eq]
    cases h1 : fltQ l o p (m - (p + 1)) (p + 1) with
    | none =>
      rw [h1] at inn
      simp (maxSteps := 1000000) (disch := first | omega | decide | assumption | simp [scal]) [lenA_sl lk_24, o_indexAddrS es_24, loadA_eq ia_3, e1, e1', inn, this]
    | some q =>
      rw [h1] at inn
      simp (maxSteps := 1000000) (disch := first | omega | decide | assumption | simp [scal]) [lenA_sl lk_24, o_indexAddrS es_24, loadA_eq ia_3, e1, e1', inn]
end
theorem ord_ok {l : Nat → Int × Int} {n : Nat} {o : Nat → Int} {m : Nat} (h : ordS l n o m = 0) : m = n ∧ n ≤ 30 ∧ ∀ j, j < m → 0 ≤ o j ∧ o j < n := by
  unfold ordS at h
  by_cases h1 : chkS l n = 0
  · rw [if_neg (by simp [h1])] at h
    by_cases h2 : m = n
    · rw [if_neg (by simp [h2])] at h
      refine ⟨h2, ?_, ?_⟩
      · unfold chkS at h1
        by_cases h0 : n = 0
        · omega
        · rw [if_neg h0] at h1
          by_cases h2 : 30 < n
          · rw [if_pos h2] at h1; omega
          · omega
      · have key : ∀ k i, ordL o n k i = 0 → ∀ j, i ≤ j → j < i + k → 0 ≤ o j ∧ o j < n := by
          intro k
          induction k with
          | zero => intro i _ j h3 h4; omega
          | succ k ih =>
            intro i hk j h3 h4
            unfold ordL at hk
            cases h5 : (decide (0 ≤ o i) && decide (o i ≤ (n : Int) - 1))
            · rw [if_pos h5] at hk; omega
            · rw [if_neg (by simp [h5])] at hk
              by_cases h6 : seenK o (o i) i 0 = true
              · rw [if_pos h6] at hk; omega
              · rw [if_neg h6] at hk
                simp only [Bool.and_eq_true, decide_eq_true_eq] at h5
                by_cases hj : j = i
                · subst hj; omega
                · exact ih (i + 1) hk j (by omega) (by omega)
        intro j hj
        exact key m 0 h j (by omega) (by omega)
    · rw [if_pos h2] at h; omega
  · rw [if_pos h1] at h; omega
/-- the first fault, and the error -/
def fltV (l : Nat → Int × Int) (n : Nat) (o : Nat → Int) (m : Nat) : Value :=
  if ordS l n o m ≠ 0 then .tuple #[iv 0, iv 0, iv (ordS l n o m)] else match fltP l o m m 0 with
    | none => .tuple #[iv 0, iv 0, iv 6]
    | some r => .tuple #[iv r.1, iv r.2, iv 0]
theorem fltV_ren {l : Nat → Int × Int} {n : Nat} {o : Nat → Int} {m : Nat} (g : Nat → Option Nat) : renV g dep (fltV l n o m) = some (fltV l n o m) := by
  unfold fltV
  split
  · rfl
  · split <;> rfl
def posS (l : Nat → Int × Int) (n : Nat) (o : Nat → Int) (m : Nat) : Int := if ordS l n o m ≠ 0 then ordS l n o m else if (fltP l o m m 0).isSome then 13 else 0
section
variable (b off n c b2 off2 m c2 : Nat) {cs cs2 : List Value} {own own2 : Bool} {l : Nat → Int × Int} {o : Nat → Int} {h : List Blk}
  (hb : h[b]? = some (.cells cs 2 true own)) (hb2 : h[b2]? = some (.cells cs2 1 true own2)) (hne : b ≠ b2) (hc : SpC cs off n l) (hc2 : InC cs2 off2 m o)
include hb hb2 hne hc hc2
theorem k73 (hm : m ≤ 60) (ho : ∀ j, j < m → 0 ≤ o j ∧ o j < n) : callH LL 73 [sl b off n c, sl b2 off2 m c2] h = some ⟨match fltP l o m m 0 with | none => .tuple #[iv 0, iv 0, .bool false] | some r => .tuple #[iv r.1, iv r.2, .bool true], h, [b, b2], []⟩ := by
  refine callH_2 rfl hb hb2 hne noIdB_flat noIdB_flat (so_ren hne rfl) (go (by decide) ?_) fun _ => by split <;> rfl
  rw [run73 _ _ _ (by simp)]
  have this := l73 off n c off2 m c2 cs cs2 own own2 l o hc hc2 hm ho m 0 (by omega)
  simp only [Int.natCast_zero] at this
  cases h1 : fltP l o m m 0 with
  | none =>
    rw [h1] at this
    simp (maxSteps := 1000000) (disch := first | omega | decide | assumption | simp [scal]) [lenA_sl lk_24, o_indexAddrS es_24, loadA_eq ia_3, this]
  | some r =>
    rw [h1] at this
    simp (maxSteps := 1000000) (disch := first | omega | decide | assumption | simp [scal]) [lenA_sl lk_24, o_indexAddrS es_24, loadA_eq ia_3, this]
theorem k42 (hn : n ≤ 60) : callH LL 42 [sl b off n c, sl b2 off2 m c2] h = some ⟨fltV l n o m, h, [b, b2], []⟩ := by
  refine callH_2 rfl hb hb2 hne noIdB_flat noIdB_flat (so_ren hne rfl) (go (by decide) ?_) fltV_ren
  rw [run42 _ _ _ (by simp)]
  have a := fun bx => k72 0 off n c 1 off2 m c2 (h := .cells cs 2 true own :: .cells cs2 1 true own2 :: bx) rfl rfl (by decide) hc hc2 hn
  unfold fltV
  by_cases h1 : ordS l n o m = 0
  · obtain ⟨h2, h3, h4⟩ := ord_ok h1
    have a1 := fun bx => k73 0 off n c 1 off2 m c2 (h := .cells cs 2 true own :: .cells cs2 1 true own2 :: bx) rfl rfl (by decide) hc hc2 (by omega) h4
    rw [h1] at a
    cases h5 : fltP l o m m 0 with
    | none =>
      rw [h5] at a1
      simp (maxSteps := 1000000) (disch := first | omega | decide | assumption | simp [scal]) [a, h1, a1]
    | some r =>
      rw [h5] at a1
      simp (maxSteps := 1000000) (disch := first | omega | decide | assumption | simp [scal]) [a, h1, a1]
  · simp (maxSteps := 1000000) (disch := first | omega | decide | assumption | simp [scal]) [a, h1]
theorem k46 (hn : n ≤ 60) : callH LL 46 [sl b off n c, sl b2 off2 m c2] h = some ⟨fltV l n o m, h, [b, b2], []⟩ := by
  refine callH_2 rfl hb hb2 hne noIdB_flat noIdB_flat (so_ren hne rfl) (go (by decide) ?_) fltV_ren
  rw [run46 _ _ _ (by simp)]
  have a := fun bx => k76 0 off n c 1 off2 m c2 (h := .cells cs 2 true own :: .cells cs2 1 true own2 :: bx) rfl rfl (by decide) hc hc2 hn
  unfold fltV
  by_cases h1 : ordS l n o m = 0
  · obtain ⟨h2, h3, h4⟩ := ord_ok h1
    have this := l46 off n c off2 m c2 cs cs2 own own2 l o hc hc2 (by omega) h4 m 0 (by omega)
    simp only [Int.natCast_zero] at this
    rw [h1] at a
    cases h5 : fltP l o m m 0 with
    | none =>
      rw [h5] at this
      simp (maxSteps := 1000000) (disch := first | omega | decide | assumption | simp [scal]) [lenA_sl lk_24, o_indexAddrS es_24, loadA_eq ia_3, a, h1, this]
    | some r =>
      rw [h5] at this
      simp (maxSteps := 1000000) (disch := first | omega | decide | assumption | simp [scal]) [lenA_sl lk_24, o_indexAddrS es_24, loadA_eq ia_3, a, h1, this]
  · simp (maxSteps := 1000000) (disch := first | omega | decide | assumption | simp [scal]) [lenA_sl lk_24, o_indexAddrS es_24, loadA_eq ia_3, a, h1]
end
end Go.Proofs.Ytfccmddkblbeoaa.rk
namespace Go.Proofs.Ytfccmddkblbeoaa.rk
open Go.GE
set_option linter.unusedVariables false
set_option linter.unusedSimpArgs false
set_option linter.unusedSectionVars false
set_option maxRecDepth 100000
set_option maxHeartbeats 4000000
attribute [local simp] runOps_nil runOps_cons runOpsF_nil runOpsF_cons fstS_some fstF_some opStep_eq want_none oStep_true oStep_false fin_pure fin_read fin_alloc fin_write storeB wrN cellV addWr o_move o_assign o_pick o_alloc o_box o_load o_store o_nilCheck o_bin o_un o_extract o_callV o_callB o_callI callV_f callV_y callV_fc o_makeFunc partsA Instr.fill builtin_len builtin_max2 bin_add bin_sub bin_mul bin_quo bin_rem bin_lss bin_leq bin_gtr bin_geq bin_eql bin_neq un_neg un_not bin_shr bin_shl wrap_u64_id opd opds optAll putO nbeq nblt constOk isC ops sub cl cr co bodyOf thenS_normal thenS_ret thenS_exit thenS_goto afterN_normal afterN_ret afterN_exit afterN_goto condS_true condS_false blockS_normal blockS_ret blockS_exit blockS_goto headS normS normK_eq fixS_nil fixS_cons fix1 fixV emptyB keepO_nil keepO_cons roundC_normal roundC_exit roundC_ret roundC_goto sweep_eq sweepD rnm pickR pickW rootsB ptrT renT ptrFn renFn ptrB_flat ptrB_non renB_flat renB_non plainS_some drawS_some fpsOk disj unord range' dropTo enumT undef wrap_i64_id Value.cells mkCells ptrTo scal cellsAt rdN endS_ret resultsA Option.bind_some tupV finish reachN dep ptrL_eq ptrL renL_eq renL ptrV_bool ptrV_int ptrV_string ptrV_nilFunc ptrV_nilIface ptrV_nilPtr ptrV_ptr ptrV_nilSl ptrV_sl ptrV_iface ptrV_agg ptrV_tuple ptrV_func renV_bool renV_int renV_string renV_nilFunc renV_nilIface renV_nilPtr renV_ptr renV_nilSl renV_sl renV_iface renV_agg renV_tuple renV_func gotoS_goto gotoS_normal gotoS_exit gotoS_ret skip_seq sliceE bnd bndHi intOf optOpd keepT_nil keepT_cons keepC_t keepC_f lk_nil lk_cons lkC_t lkC_f has_nil has_cons hasC_t hasC_f rep_nil rep_cons repC_t repC_f put_eq putC_t putC_f mem_nil mem_cons memC_t memC_f idx_nil idx_cons idxC_t idxC_f reach_nil reach_cons reachC_t reachC_f
attribute [local simp] n37_1s n37_4s n37_6s n37_9s n37_10s n37_8s n37_11s n37_7s n37_5s n37_3s n37_14s n37_16s n37_19s n37_20s n37_18s n37_21s n37_17s n37_15s n37_13s n37_23s n37_24s n37_22s n37_12s n37_2s n37_0s Try.f37 n49_1s n49_3s n49_6s n49_9s n49_10s n49_8s n49_11s n49_7s n49_5s n49_14s n49_17s n49_18s n49_16s n49_19s n49_15s n49_13s n49_21s n49_22s n49_20s n49_12s n49_4s n49_2s n49_0s Try.f49 n47_1s n47_4s n47_6s n47_9s n47_10s n47_8s n47_11s n47_7s n47_5s n47_3s n47_13s n47_17s n47_20s n47_21s n47_19s n47_23s n47_26s n47_27s n47_25s n47_28s n47_24s n47_22s n47_18s n47_16s n47_15s n47_30s n47_31s n47_29s n47_14s n47_12s n47_2s n47_0s Try.f47 n48_1s n48_3s n48_6s n48_9s n48_10s n48_8s n48_11s n48_7s n48_5s n48_14s n48_17s n48_18s n48_16s n48_19s n48_15s n48_13s n48_22s n48_25s n48_26s n48_24s n48_27s n48_23s n48_21s n48_29s n48_30s n48_28s n48_20s n48_12s n48_4s n48_2s n48_0s Try.f48 n12_1s n12_4s n12_7s n12_8s n12_6s n12_9s n12_5s n12_3s n12_11s n12_13s n12_15s n12_16s n12_14s n12_12s n12_10s n12_2s n12_0s Try.f12
def verS (l : Nat → Int × Int) (n : Nat) (o : Nat → Int) (m : Nat) (p q : Int) : Int :=
  if ordS l n o m ≠ 0 then ordS l n o m
  else if ((decide (0 ≤ p) && decide (p ≤ (m : Int) - 1)) && (decide (0 ≤ q) && decide (q ≤ (m : Int) - 1))) = false then 6
  else if q ≤ p ∨ quiet l (o q.toNat).toNat (o p.toNat).toNat = false then 12 else 0
section
variable (b off n c b2 off2 m c2 : Nat) {cs cs2 : List Value} {own own2 : Bool} {l : Nat → Int × Int} {o : Nat → Int} {h : List Blk}
  (hb : h[b]? = some (.cells cs 2 true own)) (hb2 : h[b2]? = some (.cells cs2 1 true own2)) (hne : b ≠ b2) (hc : SpC cs off n l) (hc2 : InC cs2 off2 m o)
include hb hb2 hne hc hc2
theorem k37 (hn : n ≤ 60) : callH LL 37 [sl b off n c, sl b2 off2 m c2] h = some ⟨iv (posS l n o m), h, [b, b2], []⟩ := by
  refine callH_2 rfl hb hb2 hne noIdB_flat noIdB_flat (so_ren hne rfl) (go (by decide) ?_) fun _ => rfl
  rw [run37 _ _ _ (by simp)]
  have a := fun bx => k72 0 off n c 1 off2 m c2 (h := .cells cs 2 true own :: .cells cs2 1 true own2 :: bx) rfl rfl (by decide) hc hc2 hn
  unfold posS
  by_cases h1 : ordS l n o m = 0
  · obtain ⟨h2, h3, h4⟩ := ord_ok h1
    have a1 := fun bx => k73 0 off n c 1 off2 m c2 (h := .cells cs 2 true own :: .cells cs2 1 true own2 :: bx) rfl rfl (by decide) hc hc2 (by omega) h4
    rw [h1] at a
    cases h5 : fltP l o m m 0 with
    | none =>
      rw [h5] at a1
      simp (maxSteps := 1000000) (disch := first | omega | decide | assumption | simp [scal]) [a, h1, a1]
    | some r =>
      rw [h5] at a1
      simp (maxSteps := 1000000) (disch := first | omega | decide | assumption | simp [scal]) [a, h1, a1]
  · simp (maxSteps := 1000000) (disch := first | omega | decide | assumption | simp [scal]) [a, h1]
theorem k49 (hn : n ≤ 60) : callH LL 49 [sl b off n c, sl b2 off2 m c2] h = some ⟨iv (posS l n o m), h, [b, b2], []⟩ := by
  refine callH_2 rfl hb hb2 hne noIdB_flat noIdB_flat (so_ren hne rfl) (go (by decide) ?_) fun _ => rfl
  rw [run49 _ _ _ (by simp)]
  have a := fun bx => k46 0 off n c 1 off2 m c2 (h := .cells cs 2 true own :: .cells cs2 1 true own2 :: bx) rfl rfl (by decide) hc hc2 hn
  have a2 := fun bx => k76 0 off n c 1 off2 m c2 (h := .cells cs 2 true own :: .cells cs2 1 true own2 :: bx) rfl rfl (by decide) hc hc2 hn
  unfold posS
  unfold fltV at a
  by_cases h1 : ordS l n o m = 0
  · rw [if_neg (by simp [h1])] at a
    rw [h1] at a2
    cases h5 : fltP l o m m 0 with
    | none =>
      rw [h5] at a
      simp (maxSteps := 1000000) (disch := first | omega | decide | assumption | simp [scal]) [want_some q49_14g2, a, h1, a2]
    | some r =>
      rw [h5] at a
      simp (maxSteps := 1000000) (disch := first | omega | decide | assumption | simp [scal]) [want_some q49_14g2, a, h1, a2]
  · rw [if_pos h1] at a
    generalize ordS l n o m = z at *
    by_cases h6 : z = 6
    · subst h6
      simp (maxSteps := 1000000) (disch := first | omega | decide | assumption | simp [scal]) [want_some q49_14g2, a, h1, a2]
    · simp (maxSteps := 1000000) (disch := first | omega | decide | assumption | simp [scal]) [want_some q49_14g2, a, h1, a2, h6]
theorem k47 (p q : Int) (hn : n ≤ 60) : callH LL 47 [sl b off n c, sl b2 off2 m c2, iv p, iv q] h = some ⟨iv (verS l n o m p q), h, [b, b2], []⟩ := by
  refine callH_2 rfl hb hb2 hne noIdB_flat noIdB_flat (so_ren hne rfl) (go (by decide) ?_) fun _ => rfl
  rw [run47 _ _ _ (by simp)]
  have a := fun bx => k72 0 off n c 1 off2 m c2 (h := .cells cs 2 true own :: .cells cs2 1 true own2 :: bx) rfl rfl (by decide) hc hc2 hn
  unfold verS
  by_cases h1 : ordS l n o m = 0
  · obtain ⟨h2, h3, h4⟩ := ord_ok h1
    rw [h1] at a
    cases h5 : (decide (0 ≤ p) && decide (p ≤ (m : Int) - 1))
    · simp (maxSteps := 1000000) (disch := first | omega | decide | assumption | simp [scal]) [lenA_sl lk_24, o_indexAddrS es_24, loadA_eq ia_3, want_some q47_17g4, want_some q47_23g3, a, h1, k57, h5]
    cases h6 : (decide (0 ≤ q) && decide (q ≤ (m : Int) - 1))
    · simp (maxSteps := 1000000) (disch := first | omega | decide | assumption | simp [scal]) [lenA_sl lk_24, o_indexAddrS es_24, loadA_eq ia_3, want_some q47_17g4, want_some q47_23g3, a, h1, k57, h5, h6]
    have g5 := h5; have g6 := h6
    simp only [Bool.and_eq_true, decide_eq_true_eq] at g5 g6
    obtain ⟨p, rfl⟩ : ∃ x : Nat, p = x := ⟨p.toNat, by omega⟩
    obtain ⟨q, rfl⟩ : ∃ x : Nat, q = x := ⟨q.toNat, by omega⟩
    have e1 : p < m := by omega
    have e2 : q < m := by omega
    obtain ⟨x, hx⟩ : ∃ x : Nat, o p = x := ⟨(o p).toNat, by have := h4 p e1; omega⟩
    obtain ⟨y, hy⟩ : ∃ y : Nat, o q = y := ⟨(o q).toNat, by have := h4 q e2; omega⟩
    have a1 := fun bx => k77 0 off n c (h := .cells cs 2 true own :: bx) rfl hc y x (by have := h4 q e2; omega) (by have := h4 p e1; omega)
    have e3 := hc2 p e1
    have e4 := hc2 q e2
    rw [hx] at e3
    rw [hy] at e4
    rw [Int.toNat_natCast, Int.toNat_natCast, hx, hy, Int.toNat_natCast, Int.toNat_natCast]
    by_cases h7 : q ≤ p
    · have h7' : (q : Int) ≤ p := by omega
      rw [if_neg (by simp [h1]), if_neg (by decide), if_pos (.inl h7')]
      simp (maxSteps := 1000000) (disch := first | omega | decide | assumption | simp [scal]) [lenA_sl lk_24, o_indexAddrS es_24, loadA_eq ia_3, want_some q47_17g4, want_some q47_23g3, a, k57, g5.2, g6.2, h7, h7']
    · have h7' : ¬ (q : Int) ≤ p := by omega
      generalize quiet l y x = z at *
      cases z
      · rw [if_neg (by simp [h1]), if_neg (by decide), if_pos (.inr rfl)]
        simp (maxSteps := 1000000) (disch := first | omega | decide | assumption | simp [scal]) [lenA_sl lk_24, o_indexAddrS es_24, loadA_eq ia_3, want_some q47_17g4, want_some q47_23g3, a, k57, g5.2, g6.2, h7, h7', e1, e2, e3, e4, a1]
      · rw [if_neg (by simp [h1]), if_neg (by decide), if_neg (by simp [h7'])]
        simp (maxSteps := 1000000) (disch := first | omega | decide | assumption | simp [scal]) [lenA_sl lk_24, o_indexAddrS es_24, loadA_eq ia_3, want_some q47_17g4, want_some q47_23g3, a, k57, g5.2, g6.2, h7, h7', e1, e2, e3, e4, a1]
  · simp (maxSteps := 1000000) (disch := first | omega | decide | assumption | simp [scal]) [lenA_sl lk_24, o_indexAddrS es_24, loadA_eq ia_3, want_some q47_17g4, want_some q47_23g3, a, h1]
theorem k48 (p q : Int) (hn : n ≤ 60) : callH LL 48 [sl b off n c, sl b2 off2 m c2, iv p, iv q] h = some ⟨iv (verS l n o m p q), h, [b, b2], []⟩ := by
  refine callH_2 rfl hb hb2 hne noIdB_flat noIdB_flat (so_ren hne rfl) (go (by decide) ?_) fun _ => rfl
  rw [run48 _ _ _ (by simp)]
  have a := fun bx => k76 0 off n c 1 off2 m c2 (h := .cells cs 2 true own :: .cells cs2 1 true own2 :: bx) rfl rfl (by decide) hc hc2 hn
  unfold verS
  by_cases h1 : ordS l n o m = 0
  · obtain ⟨h2, h3, h4⟩ := ord_ok h1
    rw [h1] at a
    cases h5 : (decide (0 ≤ p) && decide (p ≤ (m : Int) - 1))
    · simp (maxSteps := 1000000) (disch := first | omega | decide | assumption | simp [scal]) [lenA_sl lk_24, o_indexAddrS es_24, loadA_eq ia_3, want_some q48_14g6, want_some q48_22g3, a, h1, k58, h5]
    cases h6 : (decide (0 ≤ q) && decide (q ≤ (m : Int) - 1))
    · simp (maxSteps := 1000000) (disch := first | omega | decide | assumption | simp [scal]) [lenA_sl lk_24, o_indexAddrS es_24, loadA_eq ia_3, want_some q48_14g6, want_some q48_22g3, a, h1, k58, h5, h6]
    have g5 := h5; have g6 := h6
    simp only [Bool.and_eq_true, decide_eq_true_eq] at g5 g6
    obtain ⟨p, rfl⟩ : ∃ x : Nat, p = x := ⟨p.toNat, by omega⟩
    obtain ⟨q, rfl⟩ : ∃ x : Nat, q = x := ⟨q.toNat, by omega⟩
    have e1 : p < m := by omega
    have e2 : q < m := by omega
    obtain ⟨x, hx⟩ : ∃ x : Nat, o p = x := ⟨(o p).toNat, by have := h4 p e1; omega⟩
    obtain ⟨y, hy⟩ : ∃ y : Nat, o q = y := ⟨(o q).toNat, by have := h4 q e2; omega⟩
    have a1 := fun bx => k55 0 off n c (h := .cells cs 2 true own :: bx) rfl hc y x (by have := h4 q e2; omega) (by have := h4 p e1; omega)
    have e3 := hc2 p e1
    have e4 := hc2 q e2
    rw [hx] at e3
    rw [hy] at e4
    rw [Int.toNat_natCast, Int.toNat_natCast, hx, hy, Int.toNat_natCast, Int.toNat_natCast]
    by_cases h7 : q ≤ p
    · have h7' : (q : Int) ≤ p := by omega
      rw [if_neg (by simp [h1]), if_neg (by decide), if_pos (.inl h7')]
      simp (maxSteps := 1000000) (disch := first | omega | decide | assumption | simp [scal]) [lenA_sl lk_24, o_indexAddrS es_24, loadA_eq ia_3, want_some q48_14g6, want_some q48_22g3, a, k58, g5.2, g6.2, h7, h7']
    · have h7' : ¬ (q : Int) ≤ p := by omega
      generalize quiet l y x = z at *
      cases z
      · rw [if_neg (by simp [h1]), if_neg (by decide), if_pos (.inr rfl)]
        simp (maxSteps := 1000000) (disch := first | omega | decide | assumption | simp [scal]) [lenA_sl lk_24, o_indexAddrS es_24, loadA_eq ia_3, want_some q48_14g6, want_some q48_22g3, a, k58, g5.2, g6.2, h7, h7', e1, e2, e3, e4, a1]
      · rw [if_neg (by simp [h1]), if_neg (by decide), if_neg (by simp [h7'])]
        simp (maxSteps := 1000000) (disch := first | omega | decide | assumption | simp [scal]) [lenA_sl lk_24, o_indexAddrS es_24, loadA_eq ia_3, want_some q48_14g6, want_some q48_22g3, a, k58, g5.2, g6.2, h7, h7', e1, e2, e3, e4, a1]
  · simp (maxSteps := 1000000) (disch := first | omega | decide | assumption | simp [scal]) [lenA_sl lk_24, o_indexAddrS es_24, loadA_eq ia_3, want_some q48_14g6, want_some q48_22g3, a, h1]
end
section
variable (off n c off2 m c2 : Nat) (p q : Int) {cs cs2 : List Value} {own own2 : Bool} {l : Nat → Int × Int} {o : Nat → Int}
theorem c12 (hc : SpC cs off n l) (hc2 : InC cs2 off2 m o) : LL.run 12 [sl 0 off n c, sl 1 off2 m c2, iv p, iv q] [.cells cs 2 true own, .cells cs2 1 true own2] = some ⟨.bool true, [], []⟩ := by
  refine go (by decide) ?_
  rw [run12 _ _ _ (by simp)]
  by_cases h1 : 60 < n
  · have h1' : (60 : Int) < n := by omega
    simp (maxSteps := 1000000) (disch := first | omega | decide | assumption | simp [scal]) [lenA_sl lk_22, lenA_sl lk_24, want_some q12_4g3, want_some q12_15g3, want_some q12_15g8, want_some q12_15g13, want_some q12_15g26, want_some q12_15g35, want_some q12_15g42, k14, h1, h1']
  have h1' : ¬ (60 : Int) < n := by omega
  by_cases h2 : 60 < m
  · have h2' : (60 : Int) < m := by omega
    simp (maxSteps := 1000000) (disch := first | omega | decide | assumption | simp [scal]) [lenA_sl lk_22, lenA_sl lk_24, want_some q12_4g3, want_some q12_15g3, want_some q12_15g8, want_some q12_15g13, want_some q12_15g26, want_some q12_15g35, want_some q12_15g42, k14, h1, h1', h2, h2']
  have h2' : ¬ (60 : Int) < m := by omega
  have hn : n ≤ 60 := by omega
  have a1 := fun bx => k42 0 off n c 1 off2 m c2 (h := .cells cs 2 true own :: .cells cs2 1 true own2 :: bx) rfl rfl (by decide) hc hc2 hn
  have a2 := fun bx => k46 0 off n c 1 off2 m c2 (h := .cells cs 2 true own :: .cells cs2 1 true own2 :: bx) rfl rfl (by decide) hc hc2 hn
  have a3 := fun bx => k47 0 off n c 1 off2 m c2 (h := .cells cs 2 true own :: .cells cs2 1 true own2 :: bx) rfl rfl (by decide) hc hc2 p q hn
  have a4 := fun bx => k48 0 off n c 1 off2 m c2 (h := .cells cs 2 true own :: .cells cs2 1 true own2 :: bx) rfl rfl (by decide) hc hc2 p q hn
  have a5 := fun bx => k37 0 off n c 1 off2 m c2 (h := .cells cs 2 true own :: .cells cs2 1 true own2 :: bx) rfl rfl (by decide) hc hc2 hn
  have a6 := fun bx => k49 0 off n c 1 off2 m c2 (h := .cells cs 2 true own :: .cells cs2 1 true own2 :: bx) rfl rfl (by decide) hc hc2 hn
  have a7 := fun bx => k45 0 off n c (h := .cells cs 2 true own :: bx) rfl hc hn
  have a8 := fun bx => k50 0 off n c (h := .cells cs 2 true own :: bx) rfl hc hn
  obtain ⟨u, v, w, hf⟩ : ∃ u v w : Int, fltV l n o m = .tuple #[iv u, iv v, iv w] := by
    unfold fltV
    split
    · exact ⟨_, _, _, rfl⟩
    · split <;> exact ⟨_, _, _, rfl⟩
  rw [hf] at a1 a2
  simp (maxSteps := 1000000) (disch := first | omega | decide | assumption | simp [scal]) [lenA_sl lk_22, lenA_sl lk_24, want_some q12_4g3, want_some q12_15g3, want_some q12_15g8, want_some q12_15g13, want_some q12_15g26, want_some q12_15g35, want_some q12_15g42, k14, h1, h1', h2, h2', a1, a2, a3, a4, a5, a6, a7, a8]
end
end Go.Proofs.Ytfccmddkblbeoaa.rk
namespace Go.Proofs.Ytfccmddkblbeoaa.rk
open Go.GE
set_option linter.unusedVariables false
set_option linter.unusedSimpArgs false
set_option linter.unusedSectionVars false
set_option maxRecDepth 100000
set_option maxHeartbeats 4000000
section
open Go.ChangeShapes Go.WideShapes Go.RowKit
variable {H : Type} {enc : TypeId × Value → H} {W : World} {base b0 : Nat} {v : Value} {d : DataW H} {p : List MemPlace}
def spOf (zs : List (List Int)) (i : Nat) : Int × Int := ((zs.getD i []).getD 0 0, (zs.getD i []).getD 1 0)
def inOf (zs : List (List Int)) (i : Nat) : Int := (zs.getD i []).getD 0 0
abbrev spG (p : Int × Int) : List Value := [iv p.1, iv p.2]
theorem sp_flat {zs : List (List Int)} (h : ∀ z ∈ zs, wfs [.i64, .i64] z) : SpC (zs.flatMap (ints [.i64, .i64])) 0 zs.length (spOf zs) := by
  have e : zs.flatMap (ints [.i64, .i64]) = zs.flatMap fun z => spG (z.getD 0 0, z.getD 1 0) := by
    induction zs with
    | nil => rfl
    | cons z zs ih =>
      have h1 := (h z (by simp)).1
      match z, h1 with
      | [a, b], _ => rw [List.flatMap_cons, List.flatMap_cons, ih fun z hz => h z (by simp [hz])]; rfl
  rw [e]
  intro i hi
  have hz : zs[i]? = some (zs.getD i []) := by simp [hi]
  refine ⟨?_, ?_⟩
  · have := flat_get (g := fun z : List Int => spG (z.getD 0 0, z.getD 1 0)) (k := 2) (fun _ => rfl) hz (j := 0) (by omega); simpa [spG, spOf] using this
  · have := flat_get (g := fun z : List Int => spG (z.getD 0 0, z.getD 1 0)) (k := 2) (fun _ => rfl) hz (j := 1) (by omega); simpa [spG, spOf] using this
theorem in_flat {zs : List (List Int)} (h : ∀ z ∈ zs, wfs [.i64] z) : InC (zs.flatMap (ints [.i64])) 0 zs.length (inOf zs) := by
  have e : zs.flatMap (ints [.i64]) = zs.flatMap fun z => [iv (z.getD 0 0)] := by
    induction zs with
    | nil => rfl
    | cons z zs ih =>
      have h1 := (h z (by simp)).1
      match z, h1 with
      | [a], _ => rw [List.flatMap_cons, List.flatMap_cons, ih fun z hz => h z (by simp [hz])]; rfl
  rw [e]
  intro i hi
  have hz : zs[i]? = some (zs.getD i []) := by simp [hi]
  have := flat_get (g := fun z : List Int => [iv (z.getD 0 0)]) (k := 1) (fun _ => rfl) hz (j := 0) (by omega); simpa [inOf] using this
/-- a month as it is handed over -/
theorem open_spans (hv : Value.okWide Try.prog W .any b0 22 v) (hd : DataW.Trod enc Try.prog W base (fun _ => true) true 22 v d p) :
    ∃ (zs : List (List Int)) (mb : Option MB), WinO W mb (.cells (zs.flatMap (ints [.i64, .i64])) 2 true false) ∧ (∀ (m : Mp) b, m b = mb → VR m (sl b 0 zs.length zs.length) v) ∧ SpC (zs.flatMap (ints [.i64, .i64])) 0 zs.length (spOf zs) := by
  obtain ⟨zs, mb, hw, hvr, hz, _⟩ := open_param_flat (ks := [.i64, .i64]) (d := 4) Try.underlying22 (by kernel_rfl) (by kernel_rfl) (by decide) hv hd
  exact ⟨zs, mb, hw, hvr, sp_flat hz⟩
/-- integers as they are handed over -/
theorem open_nums (hv : Value.okWide Try.prog W .any b0 24 v) (hd : DataW.Trod enc Try.prog W base (fun _ => true) true 24 v d p) :
    ∃ (zs : List (List Int)) (mb : Option MB), WinO W mb (.cells (zs.flatMap (ints [.i64])) 1 true false) ∧ (∀ (m : Mp) b, m b = mb → VR m (sl b 0 zs.length zs.length) v) ∧ InC (zs.flatMap (ints [.i64])) 0 zs.length (inOf zs) := by
  obtain ⟨zs, mb, hw, hvr, hz, _⟩ := open_param_flat (ks := [.i64]) (d := 3) Try.underlying24 (by kernel_rfl) (by kernel_rfl) (by decide) hv hd
  exact ⟨zs, mb, hw, hvr, in_flat hz⟩
theorem open_i (hv : Value.okWide Try.prog W .any b0 3 v) (hd : DataW.Trod enc Try.prog W base (fun _ => true) true 3 v d p) : ∃ x : Int, v = iv x := by
  obtain ⟨y, rfl, _, _, h⟩ := open_int (show Try.prog.underlying 3 = some (.int .i64) from by kernel_rfl) hv hd
  exact ⟨y, rfl⟩
end
end Go.Proofs.Ytfccmddkblbeoaa.rk
