/-
  Contracts of functions of the program at the limit evaluator. No condition.
-/
import Derived.Test.YtfccmddkblbeoaaRBN
import Derived.Test.YtfccmddkblbeoaaE40
namespace Go.Proofs.Ytfccmddkblbeoaa.rk
open Go.GE
set_option linter.unusedVariables false
set_option linter.unusedSimpArgs false
set_option linter.unusedSectionVars false
set_option maxRecDepth 100000
set_option maxHeartbeats 4000000
attribute [local simp] runOps_nil runOps_cons runOpsF_nil runOpsF_cons fstS_some fstF_some opStep_eq want_none oStep_true oStep_false fin_pure fin_read fin_alloc fin_write storeB wrN cellV addWr o_move o_assign o_pick o_alloc o_box o_load o_store o_nilCheck o_bin o_un o_extract o_callV o_callB o_callI callV_f callV_y callV_fc o_makeFunc partsA Instr.fill builtin_len builtin_max2 bin_add bin_sub bin_mul bin_quo bin_rem bin_lss bin_leq bin_gtr bin_geq bin_eql bin_neq un_neg un_not bin_shr bin_shl wrap_u64_id opd opds optAll putO nbeq nblt constOk isC ops sub cl cr co bodyOf thenS_normal thenS_ret thenS_exit thenS_goto afterN_normal afterN_ret afterN_exit afterN_goto condS_true condS_false blockS_normal blockS_ret blockS_exit blockS_goto headS normS normK_eq fixS_nil fixS_cons fix1 fixV emptyB keepO_nil keepO_cons roundC_normal roundC_exit roundC_ret roundC_goto sweep_eq sweepD rnm pickR pickW rootsB ptrT renT ptrFn renFn ptrB_flat ptrB_non renB_flat renB_non plainS_some drawS_some fpsOk disj unord range' dropTo enumT undef wrap_i64_id Value.cells mkCells ptrTo scal cellsAt rdN endS_ret resultsA Option.bind_some tupV finish reachN dep ptrL_eq ptrL renL_eq renL ptrV_bool ptrV_int ptrV_string ptrV_nilFunc ptrV_nilIface ptrV_nilPtr ptrV_ptr ptrV_nilSl ptrV_sl ptrV_iface ptrV_agg ptrV_tuple ptrV_func renV_bool renV_int renV_string renV_nilFunc renV_nilIface renV_nilPtr renV_ptr renV_nilSl renV_sl renV_iface renV_agg renV_tuple renV_func gotoS_goto gotoS_normal gotoS_exit gotoS_ret skip_seq sliceE bnd bndHi intOf optOpd keepT_nil keepT_cons keepC_t keepC_f lk_nil lk_cons lkC_t lkC_f has_nil has_cons hasC_t hasC_f rep_nil rep_cons repC_t repC_f put_eq putC_t putC_f mem_nil mem_cons memC_t memC_f idx_nil idx_cons idxC_t idxC_f reach_nil reachP_cons reachQ_t reachQ_f ptrB_dead renB_dead ins_eq
attribute [local simp] n57_1s n57_3s n57_4s n57_2s n57_0s Try.f57 n58_1s n58_3s n58_4s n58_2s n58_0s Try.f58 n75_1s n75_3s n75_4s n75_2s n75_0s Try.f75 n82_1s n82_4s n82_8s n82_11s n82_12s n82_10s n82_16s n82_18s n82_21s n82_22s n82_20s n82_23s n82_19s n82_17s n82_15s n82_14s n82_24s n82_13s n82_9s n82_7s n82_6s n82_6g n82_5s n82_3s n82_26s n82_27s n82_25s n82_2s n82_0s Try.f82
theorem other {f : FuncId} (hf : (14 : Nat) ≠ f) (a : List Value) (h : List Blk) : (wk.wtab.keep kpT).run f a h = none := by
  show GE.tabR [wk.ew] f a h = none
  have : Nat.beq wk.ew.f f = false := GE.beq_false.2 hf
  simp only [tabR, this, Bool.false_and, cond_false]
theorem go {f : FuncId} {args : List Value} {h : List Blk} {r : RR} (hf : (14 : Nat) ≠ f) (he : runB Try.prog LL f args h = some r) : LL.run f args h = some r := L_run (other hf _ _) he
theorem k14 (h : List Blk) : callH LL 14 [] h = some ⟨.bool true, h, [], []⟩ := callH_plain (L_tab rfl) rfl rfl
abbrev sl (b off n c : Nat) : Value := .slice (some ⟨b, off, none⟩) n c
abbrev pp (b : Nat) : Value := .pointer (some ⟨b, 0, none⟩)
/-- cells of spans -/
def SpC (cs : List Value) (off n : Nat) (l : Nat → Int × Int) : Prop := ∀ i, i < n → cs[off + i * 2]? = some (iv (l i).1) ∧ cs[off + i * 2 + 1]? = some (iv (l i).2)
theorem k57 (a b c : Int) (h : List Blk) : callH LL 57 [iv a, iv b, iv c] h = some ⟨.bool (decide (a ≤ b) && decide (b ≤ c)), h, [], []⟩ := by
  refine callH_plain (go (by decide) ?_) rfl rfl
  rw [run57 _ _ _ (by simp)]
  by_cases h1 : a ≤ b <;> by_cases h2 : b ≤ c <;>
  simp (maxSteps := 1000000) (disch := first | omega | decide | assumption | simp [scal]) [want_some q57_3g3, h1, h2]
theorem k58 (a b c : Int) (h : List Blk) : callH LL 58 [iv a, iv b, iv c] h = some ⟨.bool (decide (b ≤ a) && decide (a ≤ c)), h, [], []⟩ := by
  refine callH_plain (go (by decide) ?_) rfl rfl
  rw [run58 _ _ _ (by simp)]
  by_cases h1 : b ≤ a <;> by_cases h2 : a ≤ c <;>
  simp (maxSteps := 1000000) (disch := first | omega | decide | assumption | simp [scal]) [want_some q58_3g3, h1, h2]
/-- a month's day that is not valid -/
def bad (s : Int × Int) : Bool := !(decide (0 ≤ s.1) && decide (s.1 ≤ s.2)) || decide (100000 < s.2)
theorem k75 (x y : Int) (h : List Blk) : callH LL 75 [.agg #[iv x, iv y]] h = some ⟨.bool (bad (x, y)), h, [], []⟩ := by
  refine callH_none rfl (fun _ => rfl) (go (by decide) ?_) fun _ => rfl
  rw [run75 _ _ _ (by simp)]
  cases h1 : (decide (0 ≤ x) && decide (x ≤ y))
  · simp (maxSteps := 1000000) (disch := first | omega | decide | assumption | simp [scal]) [o_fieldAddr fa_55_0 (by decide), loadA_eq ia_3, o_fieldAddr fa_55_1 (by decide), want_some q75_3g6, h1, k57, bad]
  · by_cases h2 : (100000 : Int) < y
    · simp (maxSteps := 1000000) (disch := first | omega | decide | assumption | simp [scal]) [o_fieldAddr fa_55_0 (by decide), loadA_eq ia_3, o_fieldAddr fa_55_1 (by decide), want_some q75_3g6, h1, h2, k57, bad]
    · simp (maxSteps := 1000000) (disch := first | omega | decide | assumption | simp [scal]) [o_fieldAddr fa_55_0 (by decide), loadA_eq ia_3, o_fieldAddr fa_55_1 (by decide), want_some q75_3g6, h1, h2, k57, bad]
def idxL (l : Nat → Int × Int) : Nat → Nat → Int
  | 0, _ => -1
  | k + 1, i => if bad (l i) = true then i else idxL l k (i + 1)
def anyB (l : Nat → Int × Int) : Nat → Nat → Bool
  | 0, _ => false
  | k + 1, i => bad (l i) || anyB l k (i + 1)
theorem idx_any {l : Nat → Int × Int} : ∀ k i, decide (0 ≤ idxL l k i) = anyB l k i := by
  intro k
  induction k with
  | zero => intro i; rfl
  | succ k ih =>
    intro i
    unfold idxL anyB
    cases h : bad (l i)
    · simp [ih]
    · simp
theorem any_iff {l : Nat → Int × Int} {n : Nat} : anyB l n 0 = false ↔ ∀ i, i < n → bad (l i) = false := by
  have key : ∀ k i, anyB l k i = false ↔ ∀ j, i ≤ j → j < i + k → bad (l j) = false := by
    intro k
    induction k with
    | zero => intro i; simp only [anyB, true_iff]; intro j h1 h2; omega
    | succ k ih =>
      intro i
      simp only [anyB, Bool.or_eq_false_iff, ih]
      constructor
      · rintro ⟨h1, h2⟩ j h3 h4
        by_cases hj : j = i
        · subst hj; exact h1
        · exact h2 j (by omega) (by omega)
      · intro h
        exact ⟨h i (by omega) (by omega), fun j h1 h2 => h j (by omega) (by omega)⟩
  rw [key]
  constructor
  · intro h i hi; exact h i (by omega) (by omega)
  · intro h j _ hj; exact h j (by omega)
section
variable (off n c : Nat) (cs : List Value) (own : Bool) (l : Nat → Int × Int)
theorem l82 (hc : SpC cs off n l) (hn : n ≤ 60) : ∀ k i : Nat, i + k = n →
    lpB Try.prog LL ⟨82, 19, 1, none⟩ n82_6 n82_7 ⟨[(0, sl 0 off n c), (1, .func (.func 75) #[] #[]), (7, iv n), (8, iv i)], [.cells cs 2 true own], []⟩ =
      if idxL l k i = -1 then some (.exit 0, ⟨[], [.cells cs 2 true own], []⟩) else some (.ret, ⟨[(4, iv (idxL l k i))], [.cells cs 2 true own], []⟩) := by
  intro k
  induction k with
  | zero =>
    intro i hi
    obtain rfl : i = n := by omega
    rw [lpB_eq]
    simp (maxSteps := 1000000) (disch := first | omega | decide | assumption | simp [scal]) [lenA_sl lk_22, o_indexAddrS es_22, loadA_eq ia_55, idxL]
  | succ k ih =>
    intro i hi
    have e1 : i < n := by omega
    have this := ih (i + 1) (by omega)
    obtain ⟨e2, e3⟩ := hc i e1
    obtain ⟨x, y, hxy⟩ : ∃ x y, l i = (x, y) := ⟨_, _, rfl⟩
    rw [hxy] at e2 e3
    unfold idxL
    rw [hxy]
    rw [lpB_eq]
    simp only [cast1] at this
    cases h1 : bad (x, y)
    · simp (maxSteps := 1000000) (disch := first | omega | decide | assumption | simp [scal]) [lenA_sl lk_22, o_indexAddrS es_22, loadA_eq ia_55, e1, e2, e3, k75, h1, this]
    · have : ¬ ((i : Int) = -1) := by omega
      simp (maxSteps := 1000000) (disch := first | omega | decide | assumption | simp [scal]) [lenA_sl lk_22, o_indexAddrS es_22, loadA_eq ia_55, e1, e2, e3, k75, h1, this]
end
end Go.Proofs.Ytfccmddkblbeoaa.rk
namespace Go.Proofs.Ytfccmddkblbeoaa.rk
open Go.GE
set_option linter.unusedVariables false
set_option linter.unusedSimpArgs false
set_option linter.unusedSectionVars false
set_option maxRecDepth 100000
set_option maxHeartbeats 4000000
attribute [local simp] runOps_nil runOps_cons runOpsF_nil runOpsF_cons fstS_some fstF_some opStep_eq want_none oStep_true oStep_false fin_pure fin_read fin_alloc fin_write storeB wrN cellV addWr o_move o_assign o_pick o_alloc o_box o_load o_store o_nilCheck o_bin o_un o_extract o_callV o_callB o_callI callV_f callV_y callV_fc o_makeFunc partsA Instr.fill builtin_len builtin_max2 bin_add bin_sub bin_mul bin_quo bin_rem bin_lss bin_leq bin_gtr bin_geq bin_eql bin_neq un_neg un_not bin_shr bin_shl wrap_u64_id opd opds optAll putO nbeq nblt constOk isC ops sub cl cr co bodyOf thenS_normal thenS_ret thenS_exit thenS_goto afterN_normal afterN_ret afterN_exit afterN_goto condS_true condS_false blockS_normal blockS_ret blockS_exit blockS_goto headS normS normK_eq fixS_nil fixS_cons fix1 fixV emptyB keepO_nil keepO_cons roundC_normal roundC_exit roundC_ret roundC_goto sweep_eq sweepD rnm pickR pickW rootsB ptrT renT ptrFn renFn ptrB_flat ptrB_non renB_flat renB_non plainS_some drawS_some fpsOk disj unord range' dropTo enumT undef wrap_i64_id Value.cells mkCells ptrTo scal cellsAt rdN endS_ret resultsA Option.bind_some tupV finish reachN dep ptrL_eq ptrL renL_eq renL ptrV_bool ptrV_int ptrV_string ptrV_nilFunc ptrV_nilIface ptrV_nilPtr ptrV_ptr ptrV_nilSl ptrV_sl ptrV_iface ptrV_agg ptrV_tuple ptrV_func renV_bool renV_int renV_string renV_nilFunc renV_nilIface renV_nilPtr renV_ptr renV_nilSl renV_sl renV_iface renV_agg renV_tuple renV_func gotoS_goto gotoS_normal gotoS_exit gotoS_ret skip_seq sliceE bnd bndHi intOf optOpd keepT_nil keepT_cons keepC_t keepC_f lk_nil lk_cons lkC_t lkC_f has_nil has_cons hasC_t hasC_f rep_nil rep_cons repC_t repC_f put_eq putC_t putC_f mem_nil mem_cons memC_t memC_f idx_nil idx_cons idxC_t idxC_f reach_nil reachP_cons reachQ_t reachQ_f ptrB_dead renB_dead ins_eq
attribute [local simp] n82_1s n82_4s n82_8s n82_11s n82_12s n82_10s n82_16s n82_18s n82_21s n82_22s n82_20s n82_23s n82_19s n82_17s n82_15s n82_14s n82_24s n82_13s n82_9s n82_7s n82_6s n82_6g n82_5s n82_3s n82_26s n82_27s n82_25s n82_2s n82_0s Try.f82 n74_1s n74_3s n74_4s n74_2s n74_0s Try.f74 n45_1s n45_5s n45_8s n45_9s n45_7s n45_11s n45_14s n45_15s n45_13s n45_17s n45_20s n45_21s n45_19s n45_22s n45_18s n45_16s n45_12s n45_10s n45_6s n45_4s n45_3s n45_24s n45_25s n45_23s n45_2s n45_0s Try.f45 n77_1s n77_3s n77_4s n77_2s n77_0s Try.f77 n55_1s n55_3s n55_4s n55_2s n55_0s Try.f55 n50_1s n50_4s n50_7s n50_8s n50_6s n50_9s n50_5s n50_3s n50_12s n50_15s n50_16s n50_14s n50_17s n50_13s n50_11s n50_20s n50_25s n50_27s n50_28s n50_26s n50_24s n50_32s n50_35s n50_36s n50_34s n50_37s n50_33s n50_31s n50_30s n50_38s n50_29s n50_23s n50_22s n50_22g n50_21s n50_19s n50_40s n50_41s n50_39s n50_18s n50_10s n50_2s n50_0s Try.f50
/-- a month's check -/
def chkS (l : Nat → Int × Int) (n : Nat) : Int := if n = 0 then 2 else if 30 < n then 3 else if anyB l n 0 = true then 1 else 0
def quiet (l : Nat → Int × Int) (i k : Nat) : Bool := decide ((l i).2 < (l k).1)
section
variable (b off n c : Nat) {cs : List Value} {own : Bool} {l : Nat → Int × Int} {h : List Blk} (hb : h[b]? = some (.cells cs 2 true own)) (hc : SpC cs off n l)
include hb hc
theorem k82 (hn : n ≤ 60) : callH LL 82 [sl b off n c, .func (.func 75) #[] #[]] h = some ⟨iv (idxL l n 0), h, [b], []⟩ := by
  refine callH_1 rfl hb noIdB_flat (args' := [sl 0 off n c, .func (.func 75) #[] #[]]) (by simp [renV, dep, optAll, idx, nbeq]) (go (by decide) ?_) fun _ => rfl
  rw [run82 _ _ _ (by simp)]
  have this := l82 off n c cs own l hc hn n 0 (by omega)
  by_cases h1 : idxL l n 0 = -1
  · rw [if_pos h1] at this
    simp only [Int.natCast_zero] at this
    rw [h1]
    simp (maxSteps := 1000000) (disch := first | omega | decide | assumption | simp [scal]) [lenA_sl lk_22, o_indexAddrS es_22, loadA_eq ia_55, this]
  · rw [if_neg h1] at this
    simp only [Int.natCast_zero] at this
    simp (maxSteps := 1000000) (disch := first | omega | decide | assumption | simp [scal]) [lenA_sl lk_22, o_indexAddrS es_22, loadA_eq ia_55, this]
theorem k74 (hn : n ≤ 60) : callH LL 74 [sl b off n c, .func (.func 75) #[] #[]] h = some ⟨.bool (anyB l n 0), h, [b], []⟩ := by
  refine callH_1 rfl hb noIdB_flat (args' := [sl 0 off n c, .func (.func 75) #[] #[]]) (by simp [renV, dep, optAll, idx, nbeq]) (go (by decide) ?_) fun _ => rfl
  rw [run74 _ _ _ (by simp)]
  have a := k82 0 off n c (h := [.cells cs 2 true own]) rfl hc hn
  have e := idx_any (l := l) n 0
  generalize idxL l n 0 = x at *
  rw [← e]
  by_cases h1 : 0 ≤ x <;>
  simp (maxSteps := 1000000) (disch := first | omega | decide | assumption | simp [scal]) [a, h1]
theorem k45 (hn : n ≤ 60) : callH LL 45 [sl b off n c] h = some ⟨iv (chkS l n), h, [b], []⟩ := by
  refine callH_1 rfl hb noIdB_flat (args' := [sl 0 off n c]) (by simp [renV, dep, optAll, idx, nbeq]) (go (by decide) ?_) fun _ => rfl
  rw [run45 _ _ _ (by simp)]
  unfold chkS
  by_cases h1 : n = 0
  · subst h1
    simp (maxSteps := 1000000) (disch := first | omega | decide | assumption | simp [scal]) [lenA_sl lk_22]
  have h1' : ¬ ((n : Int) = 0) := by omega
  by_cases h2 : 30 < n
  · have h2' : (30 : Int) < n := by omega
    simp (maxSteps := 1000000) (disch := first | omega | decide | assumption | simp [scal]) [lenA_sl lk_22, h1, h1', h2, h2']
  have h2' : ¬ (30 : Int) < n := by omega
  have a := k74 0 off n c (h := [.cells cs 2 true own]) rfl hc hn
  cases h3 : anyB l n 0 <;> rw [h3] at a
  · simp (maxSteps := 1000000) (disch := first | omega | decide | assumption | simp [scal]) [lenA_sl lk_22, h1, h1', h2, h2', a]
  · simp (maxSteps := 1000000) (disch := first | omega | decide | assumption | simp [scal]) [lenA_sl lk_22, h1, h1', h2, h2', a]
theorem k77 (i k : Nat) (hi : i < n) (hk : k < n) : callH LL 77 [sl b off n c, iv i, iv k] h = some ⟨.bool (quiet l i k), h, [b], []⟩ := by
  refine callH_1 rfl hb noIdB_flat (args' := [sl 0 off n c, iv i, iv k]) (by simp [renV, dep, optAll, idx, nbeq]) (go (by decide) ?_) fun _ => rfl
  rw [run77 _ _ _ (by simp)]
  obtain ⟨e1, e2⟩ := hc i hi
  obtain ⟨e3, e4⟩ := hc k hk
  by_cases h1 : (l i).2 < (l k).1 <;>
  simp (maxSteps := 1000000) (disch := first | omega | decide | assumption | simp [scal]) [o_indexAddrS es_78, o_fieldAddr fa_55_1 (by decide), loadA_eq ia_3, o_fieldAddr fa_55_0 (by decide), hi, hk, e1, e2, e3, e4, quiet, h1]
theorem k55 (i k : Nat) (hi : i < n) (hk : k < n) : callH LL 55 [sl b off n c, iv i, iv k] h = some ⟨.bool (quiet l i k), h, [b], []⟩ := by
  refine callH_1 rfl hb noIdB_flat (args' := [sl 0 off n c, iv i, iv k]) (by simp [renV, dep, optAll, idx, nbeq]) (go (by decide) ?_) fun _ => rfl
  rw [run55 _ _ _ (by simp)]
  obtain ⟨e1, e2⟩ := hc i hi
  obtain ⟨e3, e4⟩ := hc k hk
  by_cases h1 : (l i).2 < (l k).1 <;>
  simp (maxSteps := 1000000) (disch := first | omega | decide | assumption | simp [scal]) [o_indexAddrS es_22, o_fieldAddr fa_55_1 (by decide), loadA_eq ia_3, o_fieldAddr fa_55_0 (by decide), hi, hk, e1, e2, e3, e4, quiet, h1]
end
section
variable (off n c : Nat) (cs : List Value) (own : Bool) (l : Nat → Int × Int)
theorem l50 (hc : SpC cs off n l) (hn : n ≤ 60) : ∀ k i : Nat, i + k = n →
    lpB Try.prog LL ⟨50, 36, 1, none⟩ n50_22 n50_23 ⟨[(0, sl 0 off n c), (3, iv i)], [.cells cs 2 true own], []⟩ =
      if anyB l k i = false then some (.exit 0, ⟨[], [.cells cs 2 true own], []⟩) else some (.ret, ⟨[(2, iv 1)], [.cells cs 2 true own], []⟩) := by
  intro k
  induction k with
  | zero =>
    intro i hi
    obtain rfl : i = n := by omega
    rw [lpB_eq]
    simp (maxSteps := 1000000) (disch := first | omega | decide | assumption | simp [scal]) [lenA_sl lk_22, o_indexAddrS es_22, o_fieldAddr fa_55_0 (by decide), loadA_eq ia_3, o_fieldAddr fa_55_1 (by decide), want_some q50_32g12, anyB]
  | succ k ih =>
    intro i hi
    have e1 : i < n := by omega
    have e1' : (i : Int) < n := by omega
    have this := ih (i + 1) (by omega)
    obtain ⟨e2, e3⟩ := hc i e1
    obtain ⟨x, y, hxy⟩ : ∃ x y, l i = (x, y) := ⟨_, _, rfl⟩
    rw [hxy] at e2 e3
    unfold anyB
    rw [hxy]
    simp only [cast1] at this
    rw [lpB_eq]
    cases h1 : (decide (0 ≤ x) && decide (x ≤ y))
    · simp (maxSteps := 1000000) (disch := first | omega | decide | assumption | simp [scal]) [lenA_sl lk_22, o_indexAddrS es_22, o_fieldAddr fa_55_0 (by decide), loadA_eq ia_3, o_fieldAddr fa_55_1 (by decide), want_some q50_32g12, e1, e1', e2, e3, k58, h1, bad]
    · by_cases h2 : (100000 : Int) < y
      · simp (maxSteps := 1000000) (disch := first | omega | decide | assumption | simp [scal]) [lenA_sl lk_22, o_indexAddrS es_22, o_fieldAddr fa_55_0 (by decide), loadA_eq ia_3, o_fieldAddr fa_55_1 (by decide), want_some q50_32g12, e1, e1', e2, e3, k58, h1, h2, bad]
      · simp (maxSteps := 1000000) (disch := first | omega | decide | assumption | simp [scal]) [lenA_sl lk_22, o_indexAddrS es_22, o_fieldAddr fa_55_0 (by decide), loadA_eq ia_3, o_fieldAddr fa_55_1 (by decide), want_some q50_32g12, e1, e1', e2, e3, k58, h1, h2, bad, this]
end
section
variable (b off n c : Nat) {cs : List Value} {own : Bool} {l : Nat → Int × Int} {h : List Blk} (hb : h[b]? = some (.cells cs 2 true own)) (hc : SpC cs off n l)
include hb hc
theorem k50 (hn : n ≤ 60) : callH LL 50 [sl b off n c] h = some ⟨iv (chkS l n), h, [b], []⟩ := by
  refine callH_1 rfl hb noIdB_flat (args' := [sl 0 off n c]) (by simp [renV, dep, optAll, idx, nbeq]) (go (by decide) ?_) fun _ => rfl
  rw [run50 _ _ _ (by simp)]
  unfold chkS
  by_cases h1 : n = 0
  · subst h1
    simp (maxSteps := 1000000) (disch := first | omega | decide | assumption | simp [scal]) [lenA_sl lk_22, o_indexAddrS es_22, o_fieldAddr fa_55_0 (by decide), loadA_eq ia_3, o_fieldAddr fa_55_1 (by decide), want_some q50_32g12]
  have h1' : ¬ ((n : Int) = 0) := by omega
  by_cases h2 : 30 < n
  · have h2' : (30 : Int) < n := by omega
    simp (maxSteps := 1000000) (disch := first | omega | decide | assumption | simp [scal]) [lenA_sl lk_22, o_indexAddrS es_22, o_fieldAddr fa_55_0 (by decide), loadA_eq ia_3, o_fieldAddr fa_55_1 (by decide), want_some q50_32g12, h1, h1', h2, h2']
  have h2' : ¬ (30 : Int) < n := by omega
  have this := l50 off n c cs own l hc hn n 0 (by omega)
  simp only [Int.natCast_zero] at this
  cases h3 : anyB l n 0 <;> rw [h3] at this
  · simp (maxSteps := 1000000) (disch := first | omega | decide | assumption | simp [scal]) [lenA_sl lk_22, o_indexAddrS es_22, o_fieldAddr fa_55_0 (by decide), loadA_eq ia_3, o_fieldAddr fa_55_1 (by decide), want_some q50_32g12, h1, h1', h2, h2', this]
  · simp (maxSteps := 1000000) (disch := first | omega | decide | assumption | simp [scal]) [lenA_sl lk_22, o_indexAddrS es_22, o_fieldAddr fa_55_0 (by decide), loadA_eq ia_3, o_fieldAddr fa_55_1 (by decide), want_some q50_32g12, h1, h1', h2, h2', this]
end
end Go.Proofs.Ytfccmddkblbeoaa.rk
namespace Go.Proofs.Ytfccmddkblbeoaa.rk
open Go.GE
set_option linter.unusedVariables false
set_option linter.unusedSimpArgs false
set_option linter.unusedSectionVars false
set_option maxRecDepth 100000
set_option maxHeartbeats 4000000
abbrev wv (n : Nat) : Value := .int .u32 (n : Int)
theorem wrap_u32 {n : Nat} (h : n < 2 ^ 32) : IntKind.u32.wrap (n : Int) = n := by simp [IntKind.wrap, IntKind.bits, IntKind.signed]; omega
theorem bin_and1w {P : Program} {t : TypeId} {c : Bool} {w : Nat} (h : w < 2 ^ 32) : binA P .and t c (.int .u32 (w : Int)) (.int .u32 1) = some (.int .u32 ((w % 2 : Nat) : Int)) := by
  have e : (BitVec.ofInt 32 (w : Int) &&& BitVec.ofInt 32 1).toNat = w % 2 := by
    rw [BitVec.ofInt_natCast]
    rw [show BitVec.ofInt 32 1 = BitVec.ofNat 32 1 from rfl, BitVec.toNat_and, BitVec.toNat_ofNat, BitVec.toNat_ofNat, Nat.mod_eq_of_lt h, Nat.mod_eq_of_lt (by decide : 1 < 2 ^ 32), Nat.and_one_is_mod]
  have e' : IntKind.u32.wrap ((BitVec.ofInt 32 (w : Int) &&& BitVec.ofInt 32 1).toNat : Int) = ((w % 2 : Nat) : Int) := by rw [e]; exact wrap_u32 (by omega)
  show some (Value.int .u32 (IntKind.u32.wrap ((BitVec.ofInt 32 (w : Int) &&& BitVec.ofInt 32 1).toNat : Int))) = _
  rw [e']
theorem bin_orw {P : Program} {t : TypeId} {c : Bool} {w v : Nat} (h : w < 2 ^ 32) (h' : v < 2 ^ 32) : binA P .or t c (.int .u32 (w : Int)) (.int .u32 (v : Int)) = some (.int .u32 ((w ||| v : Nat) : Int)) := by
  have hl : w ||| v < 2 ^ 32 := Nat.or_lt_two_pow h h'
  have e : (BitVec.ofInt 32 (w : Int) ||| BitVec.ofInt 32 (v : Int)).toNat = w ||| v := by
    rw [BitVec.ofInt_natCast, BitVec.ofInt_natCast, BitVec.toNat_or, BitVec.toNat_ofNat, BitVec.toNat_ofNat, Nat.mod_eq_of_lt h, Nat.mod_eq_of_lt h']
  have e' : IntKind.u32.wrap ((BitVec.ofInt 32 (w : Int) ||| BitVec.ofInt 32 (v : Int)).toNat : Int) = ((w ||| v : Nat) : Int) := by rw [e]; exact wrap_u32 hl
  show some (Value.int .u32 (IntKind.u32.wrap ((BitVec.ofInt 32 (w : Int) ||| BitVec.ofInt 32 (v : Int)).toNat : Int))) = _
  rw [e']
theorem fdiv_poww {w i : Nat} (hi : i < 32) : ((w : Int).fdiv (2 ^ min i IntKind.u32.bits)) = ((w / 2 ^ i : Nat) : Int) := by
  rw [show min i IntKind.u32.bits = i from Nat.min_eq_left (Nat.le_of_lt hi), Int.fdiv_eq_ediv_of_nonneg _ (by exact_mod_cast Nat.zero_le _)]
  simp
theorem shl_poww {J : Nat} (hJ : J < 32) : IntKind.u32.wrap (2 ^ min J IntKind.u32.bits) = ((2 ^ J : Nat) : Int) := by
  rw [show min J IntKind.u32.bits = J from Nat.min_eq_left (Nat.le_of_lt hJ), show ((2 : Int) ^ J) = ((2 ^ J : Nat) : Int) by simp]
  exact wrap_u32 (Nat.pow_lt_pow_right (by decide) hJ)
theorem so_ren {b off n c b2 off2 m c2 : Nat} {vs : List Value} (hne : b ≠ b2) (hv : vs.all scal = true) : optAll (renV (idx [b, b2]) dep) (sl b off n c :: sl b2 off2 m c2 :: vs) = some (sl 0 off n c :: sl 1 off2 m c2 :: vs) := by
  have e1 : renV (idx [b, b2]) dep (sl b off n c) = some (sl 0 off n c) := by simp [renV, dep, idx, nbeq]
  have e2 : renV (idx [b, b2]) dep (sl b2 off2 m c2) = some (sl 1 off2 m c2) := by simp [renV, dep, idx, nbeq, hne, hne.symm]
  have e3 : ∀ vs : List Value, vs.all scal = true → optAll (renV (idx [b, b2]) dep) vs = some vs := by
    intro vs hv
    induction vs with
    | nil => rfl
    | cons v vs ih =>
      simp only [List.all_cons, Bool.and_eq_true] at hv
      have e : renV (idx [b, b2]) dep v = some v := by cases v <;> simp [scal] at hv <;> rfl
      simp only [optAll, e, ih hv.2]
  simp only [optAll, e1, e2, e3 vs hv]
end Go.Proofs.Ytfccmddkblbeoaa.rk
namespace Go.Proofs.Ytfccmddkblbeoaa.rk
open Go.GE
set_option linter.unusedVariables false
set_option linter.unusedSimpArgs false
set_option linter.unusedSectionVars false
set_option maxRecDepth 100000
set_option maxHeartbeats 4000000
section
open Go.ChangeShapes Go.WideShapes Go.RowKit
variable {H : Type} {enc : TypeId × Value → H} {W : World} {base b0 : Nat} {v : Value} {d : DataW H} {p : List MemPlace}
def spOf (zs : List (List Int)) (i : Nat) : Int × Int := ((zs.getD i []).getD 0 0, (zs.getD i []).getD 1 0)
abbrev spG (p : Int × Int) : List Value := [iv p.1, iv p.2]
theorem sp_flat {zs : List (List Int)} (h : ∀ z ∈ zs, wfs [.i64, .i64] z) : SpC (zs.flatMap (ints [.i64, .i64])) 0 zs.length (spOf zs) := by
  have e : zs.flatMap (ints [.i64, .i64]) = zs.flatMap fun z => spG (z.getD 0 0, z.getD 1 0) := by
    induction zs with
    | nil => rfl
    | cons z zs ih =>
      have h1 := (h z (by simp)).1
      match z, h1 with
      | [a, b], _ => rw [List.flatMap_cons, List.flatMap_cons, ih fun z hz => h z (by simp [hz])]; rfl
  rw [e]
  intro i hi
  have hz : zs[i]? = some (zs.getD i []) := by simp [hi]
  refine ⟨?_, ?_⟩
  · have := flat_get (g := fun z : List Int => spG (z.getD 0 0, z.getD 1 0)) (k := 2) (fun _ => rfl) hz (j := 0) (by omega); simpa [spG, spOf] using this
  · have := flat_get (g := fun z : List Int => spG (z.getD 0 0, z.getD 1 0)) (k := 2) (fun _ => rfl) hz (j := 1) (by omega); simpa [spG, spOf] using this
/-- a month as it is handed over -/
theorem open_spans (hv : Value.okWide Try.prog W .any b0 22 v) (hd : DataW.Trod enc Try.prog W base (fun _ => true) true 22 v d p) :
    ∃ (zs : List (List Int)) (mb : Option MB), WinO W mb (.cells (zs.flatMap (ints [.i64, .i64])) 2 true false) ∧ (∀ (m : Mp) b, m b = mb → VR m (sl b 0 zs.length zs.length) v) ∧ SpC (zs.flatMap (ints [.i64, .i64])) 0 zs.length (spOf zs) := by
  obtain ⟨zs, mb, hw, hvr, hz, _⟩ := open_param_flat (ks := [.i64, .i64]) (d := 4) Try.underlying22 (by kernel_rfl) (by kernel_rfl) (by decide) hv hd
  exact ⟨zs, mb, hw, hvr, sp_flat hz⟩
theorem open_i (hv : Value.okWide Try.prog W .any b0 3 v) (hd : DataW.Trod enc Try.prog W base (fun _ => true) true 3 v d p) : ∃ x : Int, v = iv x := by
  obtain ⟨y, rfl, _, _, h⟩ := open_int (show Try.prog.underlying 3 = some (.int .i64) from by kernel_rfl) hv hd
  exact ⟨y, rfl⟩
end
end Go.Proofs.Ytfccmddkblbeoaa.rk
namespace Go.GE
theorem rdN_mid (cs : List Value) : ∀ (k o : Nat), o + k ≤ cs.length → rdN cs o k = some ((cs.drop o).take k) := by
  intro k
  induction k with
  | zero => intro o h; simp [rdN]
  | succ k ih =>
    intro o h
    have h1 := ih (o + 1) (by omega)
    have h2 : o < cs.length := by omega
    unfold rdN
    rw [h1]
    simp only [List.getElem?_eq_getElem h2]
    rw [← List.getElem_cons_drop h2]
    rfl
/-- elements of another block are added to a list's cells -/
theorem app_src {h h' : List Blk} {b c k by' l b2 o2 n c2 : Nat} {cs cs2 : List Value} {own : Bool} {k' : Nat} (hlen : cs.length = l * k) (hb : h'[b2]? = some (.cells cs2 k' true own)) (ho : o2 + n * k ≤ cs2.length) (h0 : 0 < n)
    (hl : (l + n) * by' ≤ 2 ^ 46) (hl2 : l + n ≤ 2 ^ 46) (hn : cs2.all cellV = true) :
    appS h k by' b 0 l c (some (.cells cs k true true)) (srcCells h' k (.slice (some ⟨b2, o2, none⟩) n c2)) = some ⟨.slice (some ⟨h.length, 0, none⟩) (l + n) (l + n), h.set b .dead ++ [.cells (cs ++ (cs2.drop o2).take (n * k)) k true true], [b, b2], [b]⟩ := by
  obtain ⟨m, rfl⟩ : ∃ m, n = m + 1 := ⟨n - 1, by omega⟩
  have hr := rdN_all cs (l * k) 0 (by omega)
  have hs := rdN_mid cs2 ((m + 1) * k) o2 ho
  have ha : ((cs2.drop o2).take ((m + 1) * k)).all cellV = true := by
    rw [List.all_eq_true] at hn ⊢
    exact fun v hv => hn v (List.mem_of_mem_drop (List.mem_of_mem_take hv))
  simp only [srcCells, hb, hs, Option.map_some, Bool.true_or, appS, hr, List.drop_zero]
  rw [if_pos ⟨hl, hl2, by trivial, ha⟩]
  rfl
end Go.GE
namespace Go.Proofs.Ytfccmddkblbeoaa.rk
open Go.GE
set_option linter.unusedVariables false
set_option linter.unusedSimpArgs false
set_option linter.unusedSectionVars false
set_option maxRecDepth 100000
set_option maxHeartbeats 4000000
/-- a list of spans as a block; a list as a month -/
abbrev spB (A : List (Int × Int)) : Blk := .cells (A.flatMap spG) 2 true true
def spAt (A : List (Int × Int)) (i : Nat) : Int × Int := A.getD i (0, 0)
theorem spAt_C (A : List (Int × Int)) : SpC (A.flatMap spG) 0 A.length (spAt A) := by
  intro i hi
  have hz : A[i]? = some (spAt A i) := by simp [spAt, hi]
  refine ⟨?_, ?_⟩
  · have := flat_get (g := spG) (k := 2) (fun _ => rfl) hz (j := 0) (by omega); simpa [spG] using this
  · have := flat_get (g := spG) (k := 2) (fun _ => rfl) hz (j := 1) (by omega); simpa [spG] using this
end Go.Proofs.Ytfccmddkblbeoaa.rk
namespace Go.Proofs.Ytfccmddkblbeoaa.rk
open Go.GE
set_option linter.unusedVariables false
set_option linter.unusedSimpArgs false
set_option linter.unusedSectionVars false
set_option maxRecDepth 100000
set_option maxHeartbeats 4000000
/-- numbers as cells -/
def nm (L : List Nat) : List Value := L.map fun (x : Nat) => iv x
theorem nm_len {L : List Nat} : (nm L).length = L.length := by simp [nm]
theorem nm_app {L M : List Nat} : nm (L ++ M) = nm L ++ nm M := by simp [nm]
theorem nm_one {x : Nat} : nm [x] = [iv x] := rfl
theorem nm_nil : nm [] = [] := rfl
theorem nm_get {L : List Nat} {i : Nat} (h : i < L.length) : (nm L)[i]? = some (iv (L.getD i 0)) := by simp [nm, h]
abbrev nB (L : List Nat) : Blk := .cells (nm L) 1 true true
end Go.Proofs.Ytfccmddkblbeoaa.rk
namespace Go.Proofs.Ytfccmddkblbeoaa.rk
open Go.GE
set_option linter.unusedVariables false
set_option linter.unusedSimpArgs false
set_option linter.unusedSectionVars false
set_option maxRecDepth 100000
set_option maxHeartbeats 4000000
/-- spans that make a month -/
def OkM (A : List (Int × Int)) : Prop := 1 ≤ A.length ∧ A.length ≤ 30 ∧ ∀ a ∈ A, 0 ≤ a.1 ∧ a.1 ≤ a.2 ∧ a.2 ≤ 100000
theorem OkM.at {A : List (Int × Int)} (H : OkM A) {i : Nat} (hi : i < A.length) : 0 ≤ (spAt A i).1 ∧ (spAt A i).1 ≤ (spAt A i).2 ∧ (spAt A i).2 ≤ 100000 := by
  have e : spAt A i = A[i] := by simp [spAt, hi]
  rw [e]
  exact H.2.2 _ (List.getElem_mem hi)
end Go.Proofs.Ytfccmddkblbeoaa.rk
namespace Go.Proofs.Ytfccmddkblbeoaa.rk
open Go.GE
set_option linter.unusedVariables false
set_option linter.unusedSimpArgs false
set_option linter.unusedSectionVars false
set_option maxRecDepth 100000
set_option maxHeartbeats 4000000
attribute [local simp] runOps_nil runOps_cons runOpsF_nil runOpsF_cons fstS_some fstF_some opStep_eq want_none oStep_true oStep_false fin_pure fin_read fin_alloc fin_write storeB wrN cellV addWr o_move o_assign o_pick o_alloc o_box o_load o_store o_nilCheck o_bin o_un o_extract o_callV o_callB o_callI callV_f callV_y callV_fc o_makeFunc partsA Instr.fill builtin_len builtin_max2 bin_add bin_sub bin_mul bin_quo bin_rem bin_lss bin_leq bin_gtr bin_geq bin_eql bin_neq un_neg un_not bin_shr bin_shl wrap_u64_id opd opds optAll putO nbeq nblt constOk isC ops sub cl cr co bodyOf thenS_normal thenS_ret thenS_exit thenS_goto afterN_normal afterN_ret afterN_exit afterN_goto condS_true condS_false blockS_normal blockS_ret blockS_exit blockS_goto headS normS normK_eq fixS_nil fixS_cons fix1 fixV emptyB keepO_nil keepO_cons roundC_normal roundC_exit roundC_ret roundC_goto sweep_eq sweepD rnm pickR pickW rootsB ptrT renT ptrFn renFn ptrB_flat ptrB_non renB_flat renB_non plainS_some drawS_some fpsOk disj unord range' dropTo enumT undef wrap_i64_id Value.cells mkCells ptrTo scal cellsAt rdN endS_ret resultsA Option.bind_some tupV finish reachN dep ptrL_eq ptrL renL_eq renL ptrV_bool ptrV_int ptrV_string ptrV_nilFunc ptrV_nilIface ptrV_nilPtr ptrV_ptr ptrV_nilSl ptrV_sl ptrV_iface ptrV_agg ptrV_tuple ptrV_func renV_bool renV_int renV_string renV_nilFunc renV_nilIface renV_nilPtr renV_ptr renV_nilSl renV_sl renV_iface renV_agg renV_tuple renV_func gotoS_goto gotoS_normal gotoS_exit gotoS_ret skip_seq sliceE bnd bndHi intOf optOpd keepT_nil keepT_cons keepC_t keepC_f lk_nil lk_cons lkC_t lkC_f has_nil has_cons hasC_t hasC_f rep_nil rep_cons repC_t repC_f put_eq putC_t putC_f mem_nil mem_cons memC_t memC_f idx_nil idx_cons idxC_t idxC_f reach_nil reachP_cons reachQ_t reachQ_f ptrB_dead renB_dead ins_eq
attribute [local simp] n56_1s n56_3s n56_6s n56_10s n56_13s n56_14s n56_12s n56_18s n56_21s n56_23s n56_24s n56_22s n56_20s n56_26s n56_28s n56_29s n56_27s n56_25s n56_19s n56_17s n56_16s n56_30s n56_15s n56_11s n56_9s n56_8s n56_8g n56_7s n56_5s n56_32s n56_33s n56_31s n56_4s n56_2s n56_0s Try.f56 n17_1s n17_4s n17_6s n17_9s n17_10s n17_8s n17_11s n17_7s n17_5s n17_3s n17_13s n17_16s n17_20s n17_23s n17_24s n17_22s n17_28s n17_29s n17_27s n17_26s n17_30s n17_25s n17_21s n17_19s n17_18s n17_18g n17_17s n17_15s n17_32s n17_33s n17_31s n17_14s n17_12s n17_2s n17_0s Try.f17
/-- ranks of a day, k days still to be looked at -/
def rkA (l : Nat → Int × Int) (i : Nat) : Nat → Nat → Int → Int → Int × Int
  | 0, _, a, b => (a, b)
  | k + 1, j, a, b => rkA l i k (j + 1) (if quiet l j i = true then a + 1 else a) (if quiet l i j = true then b - 1 else b)
def rkS (l : Nat → Int × Int) (n i : Nat) : Int × Int := rkA l i n 0 1 n
def rkR (l : Nat → Int × Int) (n : Nat) : List (Int × Int) := (List.range n).map (rkS l n)
section
variable (off n c : Nat) {cs : List Value} {own : Bool} {l : Nat → Int × Int}
theorem l56 (hc : SpC cs off n l) (hn : n ≤ 30) (i : Nat) (hi : i < n) : ∀ (k j : Nat) (a b : Int), j + k = n → 0 ≤ a → a ≤ 1 + j → 0 ≤ b + j → b ≤ 30 →
    lpB Try.prog LL ⟨56, 33, 1, none⟩ n56_8 n56_9 ⟨[(0, sl 0 off n c), (1, iv i), (4, pp 1), (5, pp 2), (11, iv n), (12, iv j)], [.cells cs 2 true own, .cells [iv 0, iv 0] 1 true true, .cells [iv a, iv b] 1 true true], []⟩ =
      some (.exit 0, ⟨[(4, pp 1), (5, pp 2)], [.cells cs 2 true own, .cells [iv 0, iv 0] 1 true true, .cells [iv (rkA l i k j a b).1, iv (rkA l i k j a b).2] 1 true true], []⟩) := by
  intro k
  induction k with
  | zero =>
    intro j a b hj h1 h2 h3 h4
    obtain rfl : j = n := by omega
    rw [lpB_eq]
    simp (maxSteps := 1000000) (disch := first | omega | decide | assumption | simp [scal]) [za_55, lenA_sl lk_78, o_build za_55 pl_55, sz_55, o_fieldAddr fa_55_0 (by decide), loadA_eq ia_3, sz_3, o_fieldAddr fa_55_1 (by decide), loadA_eq ia_55, rkA]
  | succ k ih =>
    intro j a b hj h1 h2 h3 h4
    have e1 : j < n := by omega
    have e1' : (j : Int) < n := by omega
    have a1 := fun bx => k77 0 off n c (h := .cells cs 2 true own :: bx) rfl hc j i e1 hi
    have a2 := fun bx => k77 0 off n c (h := .cells cs 2 true own :: bx) rfl hc i j hi e1
    unfold rkA
    rw [lpB_eq]
    cases q1 : quiet l j i <;> cases q2 : quiet l i j <;> rw [q1] at a1 <;> rw [q2] at a2 <;> simp only [Bool.false_eq_true, if_false, if_true]
    · have this := ih (j + 1) a b (by omega) h1 (by omega) (by omega) h4
      simp only [cast1] at this
      simp (maxSteps := 1000000) (disch := first | omega | decide | assumption | simp [scal]) [za_55, lenA_sl lk_78, o_build za_55 pl_55, sz_55, o_fieldAddr fa_55_0 (by decide), loadA_eq ia_3, sz_3, o_fieldAddr fa_55_1 (by decide), loadA_eq ia_55, e1, e1', a1, a2, this]
    · have this := ih (j + 1) a (b - 1) (by omega) h1 (by omega) (by omega) (by omega)
      simp only [cast1] at this
      simp (maxSteps := 1000000) (disch := first | omega | decide | assumption | simp [scal]) [za_55, lenA_sl lk_78, o_build za_55 pl_55, sz_55, o_fieldAddr fa_55_0 (by decide), loadA_eq ia_3, sz_3, o_fieldAddr fa_55_1 (by decide), loadA_eq ia_55, e1, e1', a1, a2, this]
    · have this := ih (j + 1) (a + 1) b (by omega) (by omega) (by omega) (by omega) h4
      simp only [cast1] at this
      simp (maxSteps := 1000000) (disch := first | omega | decide | assumption | simp [scal]) [za_55, lenA_sl lk_78, o_build za_55 pl_55, sz_55, o_fieldAddr fa_55_0 (by decide), loadA_eq ia_3, sz_3, o_fieldAddr fa_55_1 (by decide), loadA_eq ia_55, e1, e1', a1, a2, this]
    · have this := ih (j + 1) (a + 1) (b - 1) (by omega) (by omega) (by omega) (by omega) (by omega)
      simp only [cast1] at this
      simp (maxSteps := 1000000) (disch := first | omega | decide | assumption | simp [scal]) [za_55, lenA_sl lk_78, o_build za_55 pl_55, sz_55, o_fieldAddr fa_55_0 (by decide), loadA_eq ia_3, sz_3, o_fieldAddr fa_55_1 (by decide), loadA_eq ia_55, e1, e1', a1, a2, this]
end
section
variable (b off n c : Nat) {cs : List Value} {own : Bool} {l : Nat → Int × Int} {h : List Blk} (hb : h[b]? = some (.cells cs 2 true own)) (hc : SpC cs off n l)
include hb hc
theorem k56 (hn : n ≤ 30) (i : Nat) (hi : i < n) : callH LL 56 [sl b off n c, iv i] h = some ⟨.agg #[iv (rkS l n i).1, iv (rkS l n i).2], h, [b], []⟩ := by
  refine callH_1 rfl hb noIdB_flat (args' := [sl 0 off n c, iv i]) (by simp [renV, dep, optAll, idx, nbeq]) (go (by decide) ?_) fun _ => rfl
  have this := l56 off n c (own := own) hc hn i hi n 0 1 n (by omega) (by omega) (by omega) (by omega) (by omega)
  simp only [Int.natCast_zero] at this
  unfold rkS
  generalize rkA l i n 0 1 n = z at *
  obtain ⟨z1, z2⟩ := z
  rw [run56 _ _ _ (by simp)]
  simp (maxSteps := 1000000) (disch := first | omega | decide | assumption | simp [scal]) [za_55, lenA_sl lk_78, o_build za_55 pl_55, sz_55, o_fieldAddr fa_55_0 (by decide), loadA_eq ia_3, sz_3, o_fieldAddr fa_55_1 (by decide), loadA_eq ia_55, this]
end
theorem chk_ok {l : Nat → Int × Int} {n : Nat} (h : chkS l n = 0) : 0 < n ∧ n ≤ 30 := by
  unfold chkS at h
  by_cases h0 : n = 0
  · rw [if_pos h0] at h; omega
  · rw [if_neg h0] at h
    by_cases h2 : 30 < n
    · rw [if_pos h2] at h; omega
    · omega
section
variable (off n c : Nat) {cs : List Value} {own : Bool} {l : Nat → Int × Int}
theorem l17 (hc : SpC cs off n l) (hn : n ≤ 30) : ∀ (k i : Nat), i + k = n →
    lpB Try.prog LL ⟨17, 25, 1, none⟩ n17_18 n17_19 ⟨[(0, sl 0 off n c), (5, sl 1 0 i i), (13, iv n), (14, iv i)], [.cells cs 2 true own, spB ((List.range i).map (rkS l n))], []⟩ =
      some (.exit 0, ⟨[(5, sl 1 0 n n)], [.cells cs 2 true own, spB (rkR l n)], []⟩) := by
  intro k
  induction k with
  | zero =>
    intro i hi
    obtain rfl : i = n := by omega
    simp only [spB, rkR]
    generalize ((List.range i).map (rkS l i)).flatMap spG = F
    rw [lpB_eq]
    simp (maxSteps := 1000000) (disch := first | omega | decide | assumption | simp [scal]) [lenA_sl lk_22, o_indexAddrS es_22, ze_22, o_buildSlice es_22 ze_22 (by decide) ba_22_1, ap_22, builtin_append ni_22]
  | succ k ih =>
    intro i hi
    have e1 : (i : Int) < n := by omega
    have a1 := fun bx => k56 0 off n c (h := .cells cs 2 true own :: bx) rfl hc hn i (by omega)
    have this := ih (i + 1) (by omega)
    have c1 := fun hp b c rd => app_list (h := hp) (b := b) (c := c) (k := 2) (by' := 16) (l := i) (cs := ((List.range i).map (rkS l n)).flatMap spG) (new := spG (rkS l n i)) (rd := rd) (by rw [flat_len (k := 2) (fun _ => rfl)]; simp) (by omega) (by omega) rfl
    simp only [spB] at this ⊢
    rw [List.range_succ, List.map_append, List.map_cons, List.map_nil, List.flatMap_append, List.flatMap_cons, List.flatMap_nil, List.append_nil] at this
    generalize (rkR l n).flatMap spG = F at *
    generalize ((List.range i).map (rkS l n)).flatMap spG = G at *
    simp only [spG] at this c1
    generalize rkS l n i = z at *
    obtain ⟨z1, z2⟩ := z
    simp only [cast1] at this
    simp only [] at c1
    rw [lpB_eq]
    simp (maxSteps := 1000000) (disch := first | omega | decide | assumption | simp [scal]) [lenA_sl lk_22, o_indexAddrS es_22, ze_22, o_buildSlice es_22 ze_22 (by decide) ba_22_1, ap_22, builtin_append ni_22, e1, a1, append_some ap_22, srcCells, c1, this]
end
def rksR (l : Nat → Int × Int) (n : Nat) : List (Int × Int) := if chkS l n = 0 then rkR l n else []
section
variable (b off n c : Nat) {cs : List Value} {own : Bool} {l : Nat → Int × Int} {h : List Blk} (hb : h[b]? = some (.cells cs 2 true own)) (hc : SpC cs off n l)
include hb hc
theorem k17 (hn : n ≤ 60) : callH LL 17 [sl b off n c] h = some ⟨.tuple #[sl h.length 0 (rksR l n).length (rksR l n).length, iv (chkS l n)], h ++ [spB (rksR l n)], [b], []⟩ := by
  refine callN_1 rfl hb noIdB_flat (args' := [sl 0 off n c]) (by simp [renV, dep, optAll, idx, nbeq]) (v := .tuple #[sl 1 0 (rksR l n).length (rksR l n).length, iv (chkS l n)]) (news := [spB (rksR l n)]) (go (by decide) ?_) (by intro blk hb; simp only [List.mem_singleton] at hb; subst hb; exact noIdB_flat) (by simp [renV, dep, optAll])
  have a := fun bx => k45 0 off n c (h := .cells cs 2 true own :: bx) rfl hc hn
  rw [run17 _ _ _ (by simp)]
  unfold rksR
  by_cases h1 : chkS l n = 0
  · obtain ⟨n1, n2⟩ := chk_ok h1
    rw [if_pos h1, h1]
    rw [h1] at a
    have this := l17 off n c (own := own) hc n2 n 0 (by omega)
    have hl : (rkR l n).length = n := by simp [rkR]
    rw [hl]
    simp only [spB, List.range_zero, List.map_nil, List.flatMap_nil, Int.natCast_zero] at this ⊢
    generalize (rkR l n).flatMap spG = F at *
    simp (maxSteps := 1000000) (disch := first | omega | decide | assumption | simp [scal]) [lenA_sl lk_22, o_indexAddrS es_22, ze_22, o_buildSlice es_22 ze_22 (by decide) ba_22_1, ap_22, builtin_append ni_22, a, this]
  · rw [if_neg h1]
    simp only [spB, List.flatMap_nil, List.length_nil]
    simp (maxSteps := 1000000) (disch := first | omega | decide | assumption | simp [scal]) [lenA_sl lk_22, o_indexAddrS es_22, ze_22, o_buildSlice es_22 ze_22 (by decide) ba_22_1, ap_22, builtin_append ni_22, a, h1]
end
end Go.Proofs.Ytfccmddkblbeoaa.rk
namespace Go.Proofs.Ytfccmddkblbeoaa.rk
open Go.GE
set_option linter.unusedVariables false
set_option linter.unusedSimpArgs false
set_option linter.unusedSectionVars false
set_option maxRecDepth 100000
set_option maxHeartbeats 4000000
attribute [local simp] runOps_nil runOps_cons runOpsF_nil runOpsF_cons fstS_some fstF_some opStep_eq want_none oStep_true oStep_false fin_pure fin_read fin_alloc fin_write storeB wrN cellV addWr o_move o_assign o_pick o_alloc o_box o_load o_store o_nilCheck o_bin o_un o_extract o_callV o_callB o_callI callV_f callV_y callV_fc o_makeFunc partsA Instr.fill builtin_len builtin_max2 bin_add bin_sub bin_mul bin_quo bin_rem bin_lss bin_leq bin_gtr bin_geq bin_eql bin_neq un_neg un_not bin_shr bin_shl wrap_u64_id opd opds optAll putO nbeq nblt constOk isC ops sub cl cr co bodyOf thenS_normal thenS_ret thenS_exit thenS_goto afterN_normal afterN_ret afterN_exit afterN_goto condS_true condS_false blockS_normal blockS_ret blockS_exit blockS_goto headS normS normK_eq fixS_nil fixS_cons fix1 fixV emptyB keepO_nil keepO_cons roundC_normal roundC_exit roundC_ret roundC_goto sweep_eq sweepD rnm pickR pickW rootsB ptrT renT ptrFn renFn ptrB_flat ptrB_non renB_flat renB_non plainS_some drawS_some fpsOk disj unord range' dropTo enumT undef wrap_i64_id Value.cells mkCells ptrTo scal cellsAt rdN endS_ret resultsA Option.bind_some tupV finish reachN dep ptrL_eq ptrL renL_eq renL ptrV_bool ptrV_int ptrV_string ptrV_nilFunc ptrV_nilIface ptrV_nilPtr ptrV_ptr ptrV_nilSl ptrV_sl ptrV_iface ptrV_agg ptrV_tuple ptrV_func renV_bool renV_int renV_string renV_nilFunc renV_nilIface renV_nilPtr renV_ptr renV_nilSl renV_sl renV_iface renV_agg renV_tuple renV_func gotoS_goto gotoS_normal gotoS_exit gotoS_ret skip_seq sliceE bnd bndHi intOf optOpd keepT_nil keepT_cons keepC_t keepC_f lk_nil lk_cons lkC_t lkC_f has_nil has_cons hasC_t hasC_f rep_nil rep_cons repC_t repC_f put_eq putC_t putC_f mem_nil mem_cons memC_t memC_f idx_nil idx_cons idxC_t idxC_f reach_nil reachP_cons reachQ_t reachQ_f ptrB_dead renB_dead ins_eq
attribute [local simp] n19_1s n19_3s n19_7s n19_10s n19_11s n19_9s n19_13s n19_16s n19_17s n19_15s n19_18s n19_14s n19_12s n19_8s n19_6s n19_5s n19_21s n19_25s n19_28s n19_29s n19_27s n19_33s n19_36s n19_38s n19_39s n19_37s n19_35s n19_41s n19_43s n19_44s n19_42s n19_40s n19_34s n19_32s n19_31s n19_45s n19_30s n19_26s n19_24s n19_23s n19_23g n19_22s n19_20s n19_47s n19_48s n19_46s n19_19s n19_4s n19_2s n19_0s Try.f19
/-- the days that can be, and that surely are, among the K quietest -/
def canF (r : Nat → Int × Int) (K : Int) (i : Nat) : List Nat := (List.range i).filter fun j => decide ((r j).1 ≤ K)
def sureF (r : Nat → Int × Int) (K : Int) (i : Nat) : List Nat := (List.range i).filter fun j => decide ((r j).2 ≤ K)
theorem filt_len {p : Nat → Bool} {i : Nat} : ((List.range i).filter p).length ≤ i := by
  have := List.length_filter_le p (List.range i)
  simpa using this
theorem filt_succ {p : Nat → Bool} {i : Nat} : (List.range (i + 1)).filter p = if p i = true then (List.range i).filter p ++ [i] else (List.range i).filter p := by
  rw [List.range_succ, List.filter_append, List.filter_cons]
  by_cases h : p i = true <;> simp [h]
theorem rkR_at {l : Nat → Int × Int} {n i : Nat} (h : i < n) : spAt (rkR l n) i = rkS l n i := by simp [spAt, rkR, h]
theorem rkR_len {l : Nat → Int × Int} {n : Nat} : (rkR l n).length = n := by simp [rkR]
section
variable (K0 : Blk) (l : Nat → Int × Int) (n : Nat) (K : Int)
theorem l19 (hn : n ≤ 30) : ∀ (k i : Nat), i + k = n →
    lpB Try.prog LL ⟨19, 51, 1, none⟩ n19_23 n19_24 ⟨[(1, iv K), (4, sl 1 0 (canF (rkS l n) K i).length (canF (rkS l n) K i).length), (5, sl 2 0 (sureF (rkS l n) K i).length (sureF (rkS l n) K i).length), (25, sl 3 0 n n), (26, iv n), (27, iv i)], [K0, nB (canF (rkS l n) K i), nB (sureF (rkS l n) K i), spB (rkR l n)], []⟩ =
      some (.exit 1, ⟨[(4, sl 1 0 (canF (rkS l n) K n).length (canF (rkS l n) K n).length), (5, sl 2 0 (sureF (rkS l n) K n).length (sureF (rkS l n) K n).length)], [K0, nB (canF (rkS l n) K n), nB (sureF (rkS l n) K n)], []⟩) := by
  intro k
  induction k with
  | zero =>
    intro i hi
    obtain rfl : i = n := by omega
    simp only [spB, nB]
    generalize (rkR l i).flatMap spG = F
    generalize canF (rkS l i) K i = C
    generalize sureF (rkS l i) K i = D
    generalize nm C = C1
    generalize nm D = D1
    rw [lpB_eq]
    simp (maxSteps := 1000000) (disch := first | omega | decide | assumption | simp [scal]) [lenA_sl lk_22, o_indexAddrS es_22, loadA_eq ia_55, za_55, sz_55, o_fieldAddr fa_55_0 (by decide), loadA_eq ia_3, o_indexAddrS es_24, ze_24, o_buildSlice es_24 ze_24 (by decide) ba_24_1, ap_24, builtin_append ni_24, o_fieldAddr fa_55_1 (by decide)]
  | succ k ih =>
    intro i hi
    have e0 : i < n := by omega
    have e1 : (i : Int) < n := by omega
    have this := ih (i + 1) (by omega)
    obtain ⟨p1, p2⟩ := spAt_C (rkR l n) i (by rw [rkR_len]; exact e0)
    rw [rkR_at e0, Nat.zero_add] at p1 p2
    have hc1 : canF (rkS l n) K (i + 1) = if decide ((rkS l n i).1 ≤ K) = true then canF (rkS l n) K i ++ [i] else canF (rkS l n) K i := filt_succ
    have hd1 : sureF (rkS l n) K (i + 1) = if decide ((rkS l n i).2 ≤ K) = true then sureF (rkS l n) K i ++ [i] else sureF (rkS l n) K i := filt_succ
    have lc : (canF (rkS l n) K i).length ≤ i := filt_len
    have ld : (sureF (rkS l n) K i).length ≤ i := filt_len
    rw [hc1, hd1] at this
    clear hc1 hd1 ih
    simp only [spB, nB] at this ⊢
    generalize canF (rkS l n) K n = C2 at *
    generalize sureF (rkS l n) K n = D2 at *
    generalize canF (rkS l n) K i = C at *
    generalize sureF (rkS l n) K i = D at *
    generalize (rkR l n).flatMap spG = F at *
    generalize rkS l n i = z at *
    obtain ⟨z1, z2⟩ := z
    have c1 := fun hp b c rd => app_list (h := hp) (b := b) (c := c) (k := 1) (by' := 8) (l := C.length) (cs := nm C) (new := [iv i]) (rd := rd) (by rw [nm_len]; simp) (by omega) (by omega) rfl
    have c2 := fun hp b c rd => app_list (h := hp) (b := b) (c := c) (k := 1) (by' := 8) (l := D.length) (cs := nm D) (new := [iv i]) (rd := rd) (by rw [nm_len]; simp) (by omega) (by omega) rfl
    have lz : ∀ (x : Nat) (O : List Nat), (O ++ [x]).length = O.length + 1 := fun x O => by simp
    simp only [cast1] at this
    simp only [] at p1 p2
    rw [lpB_eq]
    by_cases h1 : z1 ≤ K <;> by_cases h2 : z2 ≤ K <;> simp only [h1, h2, decide_true, decide_false, Bool.false_eq_true, if_true, if_false, lz, nm_app, nm_one] at this
    · generalize nm C2 = C3 at *
      generalize nm D2 = D3 at *
      generalize nm C = C1 at *
      generalize nm D = D1 at *
      simp (maxSteps := 1000000) (disch := first | omega | decide | assumption | simp [scal]) [lenA_sl lk_22, o_indexAddrS es_22, loadA_eq ia_55, za_55, sz_55, o_fieldAddr fa_55_0 (by decide), loadA_eq ia_3, o_indexAddrS es_24, ze_24, o_buildSlice es_24 ze_24 (by decide) ba_24_1, ap_24, builtin_append ni_24, o_fieldAddr fa_55_1 (by decide), e0, e1, p1, p2, h1, h2, append_some ap_24, srcCells, c1, c2, this]
    · generalize nm C2 = C3 at *
      generalize nm D2 = D3 at *
      generalize nm C = C1 at *
      generalize nm D = D1 at *
      simp (maxSteps := 1000000) (disch := first | omega | decide | assumption | simp [scal]) [lenA_sl lk_22, o_indexAddrS es_22, loadA_eq ia_55, za_55, sz_55, o_fieldAddr fa_55_0 (by decide), loadA_eq ia_3, o_indexAddrS es_24, ze_24, o_buildSlice es_24 ze_24 (by decide) ba_24_1, ap_24, builtin_append ni_24, o_fieldAddr fa_55_1 (by decide), e0, e1, p1, p2, h1, h2, append_some ap_24, srcCells, c1, c2, this]
    · generalize nm C2 = C3 at *
      generalize nm D2 = D3 at *
      generalize nm C = C1 at *
      generalize nm D = D1 at *
      simp (maxSteps := 1000000) (disch := first | omega | decide | assumption | simp [scal]) [lenA_sl lk_22, o_indexAddrS es_22, loadA_eq ia_55, za_55, sz_55, o_fieldAddr fa_55_0 (by decide), loadA_eq ia_3, o_indexAddrS es_24, ze_24, o_buildSlice es_24 ze_24 (by decide) ba_24_1, ap_24, builtin_append ni_24, o_fieldAddr fa_55_1 (by decide), e0, e1, p1, p2, h1, h2, append_some ap_24, srcCells, c1, c2, this]
    · generalize nm C2 = C3 at *
      generalize nm D2 = D3 at *
      generalize nm C = C1 at *
      generalize nm D = D1 at *
      simp (maxSteps := 1000000) (disch := first | omega | decide | assumption | simp [scal]) [lenA_sl lk_22, o_indexAddrS es_22, loadA_eq ia_55, za_55, sz_55, o_fieldAddr fa_55_0 (by decide), loadA_eq ia_3, o_indexAddrS es_24, ze_24, o_buildSlice es_24 ze_24 (by decide) ba_24_1, ap_24, builtin_append ni_24, o_fieldAddr fa_55_1 (by decide), e0, e1, p1, p2, h1, h2, append_some ap_24, srcCells, c1, c2, this]
end
def qstC (l : Nat → Int × Int) (n : Nat) (K : Int) : List Nat := if chkS l n = 0 ∧ (decide (1 ≤ K) && decide (K ≤ (n : Int))) = true then canF (rkS l n) K n else []
def qstD (l : Nat → Int × Int) (n : Nat) (K : Int) : List Nat := if chkS l n = 0 ∧ (decide (1 ≤ K) && decide (K ≤ (n : Int))) = true then sureF (rkS l n) K n else []
def qstE (l : Nat → Int × Int) (n : Nat) (K : Int) : Int := if chkS l n ≠ 0 then chkS l n else if (decide (1 ≤ K) && decide (K ≤ (n : Int))) = true then 0 else 1
section
variable (b off n c : Nat) (K : Int) {cs : List Value} {own : Bool} {l : Nat → Int × Int} {h : List Blk} (hb : h[b]? = some (.cells cs 2 true own)) (hc : SpC cs off n l)
include hb hc
theorem k19 (hn : n ≤ 60) : callH LL 19 [sl b off n c, iv K] h = some ⟨.tuple #[sl h.length 0 (qstC l n K).length (qstC l n K).length, sl (h.length + 1) 0 (qstD l n K).length (qstD l n K).length, iv (qstE l n K)], h ++ [nB (qstC l n K), nB (qstD l n K)], [b], []⟩ := by
  refine callN_1 rfl hb noIdB_flat (args' := [sl 0 off n c, iv K]) (by simp [renV, dep, optAll, idx, nbeq]) (v := .tuple #[sl 1 0 (qstC l n K).length (qstC l n K).length, sl 2 0 (qstD l n K).length (qstD l n K).length, iv (qstE l n K)]) (news := [nB (qstC l n K), nB (qstD l n K)]) (go (by decide) ?_) (by intro blk hb; simp only [List.mem_cons, List.not_mem_nil, or_false] at hb; rcases hb with rfl | rfl <;> exact noIdB_flat) (by simp [renV, dep, optAll])
  have a := k17 0 off n c (h := [.cells cs 2 true own]) rfl hc hn
  unfold rksR at a
  rw [run19 _ _ _ (by simp)]
  unfold qstC qstD qstE
  by_cases h1 : chkS l n = 0
  · obtain ⟨n1, n2⟩ := chk_ok h1
    rw [if_pos h1, h1, rkR_len] at a
    cases h2 : (decide (1 ≤ K) && decide (K ≤ (n : Int)))
    · simp only [h1, Bool.false_eq_true, and_false, if_false, nB, nm_nil, List.length_nil, ne_eq, not_true]
      simp only [spB] at a
      generalize (rkR l n).flatMap spG = F at *
      simp (maxSteps := 1000000) (disch := first | omega | decide | assumption | simp [scal]) [lenA_sl lk_22, o_indexAddrS es_22, loadA_eq ia_55, za_55, sz_55, o_fieldAddr fa_55_0 (by decide), loadA_eq ia_3, o_indexAddrS es_24, ze_24, o_buildSlice es_24 ze_24 (by decide) ba_24_1, ap_24, builtin_append ni_24, o_fieldAddr fa_55_1 (by decide), a, k57, h2]
    · have this := l19 (.cells cs 2 true own) l n K n2 n 0 (by omega)
      have f0 : canF (rkS l n) K 0 = [] := rfl
      have f1 : sureF (rkS l n) K 0 = [] := rfl
      simp only [f0, f1, List.length_nil, Int.natCast_zero] at this
      simp only [h1, h2, and_self, if_true, ne_eq, not_true, if_false]
      simp only [spB, nB, nm_nil] at a this ⊢
      generalize (rkR l n).flatMap spG = F at *
      generalize canF (rkS l n) K n = C at *
      generalize sureF (rkS l n) K n = D at *
      generalize nm C = C1 at *
      generalize nm D = D1 at *
      simp (maxSteps := 1000000) (disch := first | omega | decide | assumption | simp [scal]) [lenA_sl lk_22, o_indexAddrS es_22, loadA_eq ia_55, za_55, sz_55, o_fieldAddr fa_55_0 (by decide), loadA_eq ia_3, o_indexAddrS es_24, ze_24, o_buildSlice es_24 ze_24 (by decide) ba_24_1, ap_24, builtin_append ni_24, o_fieldAddr fa_55_1 (by decide), a, k57, h2, this]
  · rw [if_neg h1] at a
    simp only [h1, false_and, if_false, nB, nm_nil, List.length_nil, ne_eq, not_false_eq_true, if_true]
    simp only [spB, List.flatMap_nil, List.length_nil] at a
    simp (maxSteps := 1000000) (disch := first | omega | decide | assumption | simp [scal]) [lenA_sl lk_22, o_indexAddrS es_22, loadA_eq ia_55, za_55, sz_55, o_fieldAddr fa_55_0 (by decide), loadA_eq ia_3, o_indexAddrS es_24, ze_24, o_buildSlice es_24 ze_24 (by decide) ba_24_1, ap_24, builtin_append ni_24, o_fieldAddr fa_55_1 (by decide), a, h1]
end
end Go.Proofs.Ytfccmddkblbeoaa.rk
namespace Go.Proofs.Ytfccmddkblbeoaa.rk
open Go.GE
set_option linter.unusedVariables false
set_option linter.unusedSimpArgs false
set_option linter.unusedSectionVars false
set_option maxRecDepth 100000
set_option maxHeartbeats 4000000
attribute [local simp] runOps_nil runOps_cons runOpsF_nil runOpsF_cons fstS_some fstF_some opStep_eq want_none oStep_true oStep_false fin_pure fin_read fin_alloc fin_write storeB wrN cellV addWr o_move o_assign o_pick o_alloc o_box o_load o_store o_nilCheck o_bin o_un o_extract o_callV o_callB o_callI callV_f callV_y callV_fc o_makeFunc partsA Instr.fill builtin_len builtin_max2 bin_add bin_sub bin_mul bin_quo bin_rem bin_lss bin_leq bin_gtr bin_geq bin_eql bin_neq un_neg un_not bin_shr bin_shl wrap_u64_id opd opds optAll putO nbeq nblt constOk isC ops sub cl cr co bodyOf thenS_normal thenS_ret thenS_exit thenS_goto afterN_normal afterN_ret afterN_exit afterN_goto condS_true condS_false blockS_normal blockS_ret blockS_exit blockS_goto headS normS normK_eq fixS_nil fixS_cons fix1 fixV emptyB keepO_nil keepO_cons roundC_normal roundC_exit roundC_ret roundC_goto sweep_eq sweepD rnm pickR pickW rootsB ptrT renT ptrFn renFn ptrB_flat ptrB_non renB_flat renB_non plainS_some drawS_some fpsOk disj unord range' dropTo enumT undef wrap_i64_id Value.cells mkCells ptrTo scal cellsAt rdN endS_ret resultsA Option.bind_some tupV finish reachN dep ptrL_eq ptrL renL_eq renL ptrV_bool ptrV_int ptrV_string ptrV_nilFunc ptrV_nilIface ptrV_nilPtr ptrV_ptr ptrV_nilSl ptrV_sl ptrV_iface ptrV_agg ptrV_tuple ptrV_func renV_bool renV_int renV_string renV_nilFunc renV_nilIface renV_nilPtr renV_ptr renV_nilSl renV_sl renV_iface renV_agg renV_tuple renV_func gotoS_goto gotoS_normal gotoS_exit gotoS_ret skip_seq sliceE bnd bndHi intOf optOpd keepT_nil keepT_cons keepC_t keepC_f lk_nil lk_cons lkC_t lkC_f has_nil has_cons hasC_t hasC_f rep_nil rep_cons repC_t repC_f put_eq putC_t putC_f mem_nil mem_cons memC_t memC_f idx_nil idx_cons idxC_t idxC_f reach_nil reachP_cons reachQ_t reachQ_f ptrB_dead renB_dead ins_eq
attribute [local simp] n18_1s n18_3s n18_6s n18_9s n18_10s n18_8s n18_11s n18_7s n18_5s n18_13s n18_16s n18_21s n18_23s n18_24s n18_22s n18_20s n18_28s n18_31s n18_36s n18_38s n18_39s n18_37s n18_35s n18_44s n18_46s n18_47s n18_45s n18_43s n18_49s n18_51s n18_52s n18_50s n18_48s n18_42s n18_41s n18_53s n18_40s n18_34s n18_33s n18_33g n18_32s n18_30s n18_54s n18_29s n18_27s n18_26s n18_55s n18_25s n18_19s n18_18s n18_18g n18_17s n18_15s n18_57s n18_58s n18_56s n18_14s n18_12s n18_4s n18_2s n18_0s Try.f18 n20_1s n20_3s n20_6s n20_8s n20_9s n20_7s n20_5s n20_12s n20_15s n20_16s n20_14s n20_17s n20_13s n20_11s n20_19s n20_22s n20_27s n20_29s n20_30s n20_28s n20_26s n20_35s n20_37s n20_38s n20_36s n20_34s n20_40s n20_42s n20_43s n20_41s n20_39s n20_33s n20_32s n20_44s n20_31s n20_25s n20_24s n20_24g n20_23s n20_21s n20_46s n20_47s n20_45s n20_20s n20_18s n20_10s n20_4s n20_2s n20_0s Try.f20 n21_1s n21_4s n21_7s n21_8s n21_6s n21_9s n21_5s n21_3s n21_12s n21_17s n21_19s n21_20s n21_18s n21_16s n21_24s n21_27s n21_28s n21_26s n21_29s n21_25s n21_23s n21_22s n21_30s n21_21s n21_15s n21_14s n21_14g n21_13s n21_11s n21_32s n21_33s n21_31s n21_10s n21_2s n21_0s Try.f21 n22_1s n22_4s n22_7s n22_8s n22_6s n22_9s n22_5s n22_3s n22_12s n22_17s n22_19s n22_20s n22_18s n22_16s n22_24s n22_27s n22_28s n22_26s n22_29s n22_25s n22_23s n22_22s n22_30s n22_21s n22_15s n22_14s n22_14g n22_13s n22_11s n22_32s n22_33s n22_31s n22_10s n22_2s n22_0s Try.f22
theorem g55 : Try.prog.eqGuardType Try.prog.depth 55 = false := by kernel_rfl
theorem s55 : Try.prog.stoodInHeld 55 = false := by kernel_rfl
theorem part3 (cs : Array Value) (o : Nat) : partA Try.prog 3 cs o = cs[o]? := by
  have e3 : Try.prog.underlying 3 = some (.int .i64) := by kernel_rfl
  unfold partA
  rw [e3]
  cases h : Try.prog.info? 3 with
  | none => have : (Try.prog.info? 3).isSome = true := by kernel_rfl
            rw [h] at this; cases this
  | some i => rfl
theorem neq55 {cst : Bool} (a b : Int) : binA Try.prog .neq 55 cst (.agg #[iv a, iv b]) (.agg #[iv a, iv b]) = some (.bool false) := by
  have e3 : Try.prog.underlying 3 = some (.int .i64) := by kernel_rfl
  simp [binA, g55, eqA, Try.underlying55, s55, eqFs, part3, e3]
section
variable (off n c : Nat) {cs : List Value} {own : Bool} {l : Nat → Int × Int}
theorem l18i (hc : SpC cs off n l) (hn : n ≤ 30) (G : List (Int × Int)) (i : Nat) (hi : i < n) : ∀ (k j : Nat) (a b : Int), j + k = n → 0 ≤ a → a ≤ 1 + j → 0 ≤ b + j → b ≤ 30 →
    lpB Try.prog LL ⟨18, 50, 1, none⟩ n18_33 n18_34 ⟨[(7, pp 1), (8, iv j), (0, sl 0 off n c), (5, sl 2 0 i i), (6, iv i)], [.cells cs 2 true own, .cells [iv a, iv b] 1 true true, spB G], []⟩ =
      some (.exit 2, ⟨[(7, pp 1), (0, sl 0 off n c), (5, sl 2 0 i i), (6, iv i)], [.cells cs 2 true own, .cells [iv (rkA l i k j a b).1, iv (rkA l i k j a b).2] 1 true true, spB G], []⟩) := by
  intro k
  induction k with
  | zero =>
    intro j a b hj h1 h2 h3 h4
    obtain rfl : j = n := by omega
    simp only [spB]
    generalize G.flatMap spG = F
    rw [lpB_eq]
    simp (maxSteps := 1000000) (disch := first | omega | decide | assumption | simp [scal]) [lenA_sl lk_22, za_55, o_build za_55 pl_55, sz_55, o_fieldAddr fa_55_0 (by decide), loadA_eq ia_3, sz_3, o_fieldAddr fa_55_1 (by decide), loadA_eq ia_55, o_indexAddrS es_22, ze_22, o_buildSlice es_22 ze_22 (by decide) ba_22_1, ap_22, builtin_append ni_22, rkA]
  | succ k ih =>
    intro j a b hj h1 h2 h3 h4
    have e1 : j < n := by omega
    have e1' : (j : Int) < n := by omega
    have a1 := fun bx => k55 0 off n c (h := .cells cs 2 true own :: bx) rfl hc j i e1 hi
    have a2 := fun bx => k55 0 off n c (h := .cells cs 2 true own :: bx) rfl hc i j hi e1
    unfold rkA
    simp only [spB] at ih ⊢
    generalize G.flatMap spG = F at *
    rw [lpB_eq]
    cases q1 : quiet l j i <;> cases q2 : quiet l i j <;> rw [q1] at a1 <;> rw [q2] at a2 <;> simp only [Bool.false_eq_true, if_false, if_true]
    · have this := ih (j + 1) a b (by omega) h1 (by omega) (by omega) h4
      simp only [cast1] at this
      simp (maxSteps := 1000000) (disch := first | omega | decide | assumption | simp [scal]) [lenA_sl lk_22, za_55, o_build za_55 pl_55, sz_55, o_fieldAddr fa_55_0 (by decide), loadA_eq ia_3, sz_3, o_fieldAddr fa_55_1 (by decide), loadA_eq ia_55, o_indexAddrS es_22, ze_22, o_buildSlice es_22 ze_22 (by decide) ba_22_1, ap_22, builtin_append ni_22, e1, e1', a1, a2, this]
    · have this := ih (j + 1) a (b - 1) (by omega) h1 (by omega) (by omega) (by omega)
      simp only [cast1] at this
      simp (maxSteps := 1000000) (disch := first | omega | decide | assumption | simp [scal]) [lenA_sl lk_22, za_55, o_build za_55 pl_55, sz_55, o_fieldAddr fa_55_0 (by decide), loadA_eq ia_3, sz_3, o_fieldAddr fa_55_1 (by decide), loadA_eq ia_55, o_indexAddrS es_22, ze_22, o_buildSlice es_22 ze_22 (by decide) ba_22_1, ap_22, builtin_append ni_22, e1, e1', a1, a2, this]
    · have this := ih (j + 1) (a + 1) b (by omega) (by omega) (by omega) (by omega) h4
      simp only [cast1] at this
      simp (maxSteps := 1000000) (disch := first | omega | decide | assumption | simp [scal]) [lenA_sl lk_22, za_55, o_build za_55 pl_55, sz_55, o_fieldAddr fa_55_0 (by decide), loadA_eq ia_3, sz_3, o_fieldAddr fa_55_1 (by decide), loadA_eq ia_55, o_indexAddrS es_22, ze_22, o_buildSlice es_22 ze_22 (by decide) ba_22_1, ap_22, builtin_append ni_22, e1, e1', a1, a2, this]
    · have this := ih (j + 1) (a + 1) (b - 1) (by omega) (by omega) (by omega) (by omega) (by omega)
      simp only [cast1] at this
      simp (maxSteps := 1000000) (disch := first | omega | decide | assumption | simp [scal]) [lenA_sl lk_22, za_55, o_build za_55 pl_55, sz_55, o_fieldAddr fa_55_0 (by decide), loadA_eq ia_3, sz_3, o_fieldAddr fa_55_1 (by decide), loadA_eq ia_55, o_indexAddrS es_22, ze_22, o_buildSlice es_22 ze_22 (by decide) ba_22_1, ap_22, builtin_append ni_22, e1, e1', a1, a2, this]
theorem l18 (hc : SpC cs off n l) (hn : n ≤ 30) : ∀ (k i : Nat), i + k = n →
    lpB Try.prog LL ⟨18, 50, 1, none⟩ n18_18 n18_19 ⟨[(0, sl 0 off n c), (5, sl 1 0 i i), (6, iv i)], [.cells cs 2 true own, spB ((List.range i).map (rkS l n))], []⟩ =
      some (.exit 0, ⟨[(5, sl 1 0 n n)], [.cells cs 2 true own, spB (rkR l n)], []⟩) := by
  intro k
  induction k with
  | zero =>
    intro i hi
    obtain rfl : i = n := by omega
    simp only [spB, rkR]
    generalize ((List.range i).map (rkS l i)).flatMap spG = F
    rw [lpB_eq]
    simp (maxSteps := 1000000) (disch := first | omega | decide | assumption | simp [scal]) [lenA_sl lk_22, za_55, o_build za_55 pl_55, sz_55, o_fieldAddr fa_55_0 (by decide), loadA_eq ia_3, sz_3, o_fieldAddr fa_55_1 (by decide), loadA_eq ia_55, o_indexAddrS es_22, ze_22, o_buildSlice es_22 ze_22 (by decide) ba_22_1, ap_22, builtin_append ni_22]
  | succ k ih =>
    intro i hi
    have e1 : (i : Int) < n := by omega
    have inn := l18i off n c (own := own) hc hn ((List.range i).map (rkS l n)) i (by omega) n 0 1 n (by omega) (by omega) (by omega) (by omega) (by omega)
    rw [show rkA l i n 0 1 n = rkS l n i from rfl] at inn
    have this := ih (i + 1) (by omega)
    have c1 := fun hp b c rd => app_list (h := hp) (b := b) (c := c) (k := 2) (by' := 16) (l := i) (cs := ((List.range i).map (rkS l n)).flatMap spG) (new := spG (rkS l n i)) (rd := rd) (by rw [flat_len (k := 2) (fun _ => rfl)]; simp) (by omega) (by omega) rfl
    simp only [spB] at this inn ⊢
    rw [List.range_succ, List.map_append, List.map_cons, List.map_nil, List.flatMap_append, List.flatMap_cons, List.flatMap_nil, List.append_nil] at this
    generalize (rkR l n).flatMap spG = F at *
    generalize ((List.range i).map (rkS l n)).flatMap spG = G at *
    simp only [spG] at this c1
    generalize rkS l n i = z at *
    obtain ⟨z1, z2⟩ := z
    simp only [cast1, Int.natCast_zero] at this inn
    simp only [] at c1
    rw [lpB_eq]
    simp (maxSteps := 1000000) (disch := first | omega | decide | assumption | simp [scal]) [lenA_sl lk_22, za_55, o_build za_55 pl_55, sz_55, o_fieldAddr fa_55_0 (by decide), loadA_eq ia_3, sz_3, o_fieldAddr fa_55_1 (by decide), loadA_eq ia_55, o_indexAddrS es_22, ze_22, o_buildSlice es_22 ze_22 (by decide) ba_22_1, ap_22, builtin_append ni_22, e1, inn, append_some ap_22, srcCells, c1, this]
end
section
variable (b off n c : Nat) {cs : List Value} {own : Bool} {l : Nat → Int × Int} {h : List Blk} (hb : h[b]? = some (.cells cs 2 true own)) (hc : SpC cs off n l)
include hb hc
theorem k18 (hn : n ≤ 60) : callH LL 18 [sl b off n c] h = some ⟨.tuple #[sl h.length 0 (rksR l n).length (rksR l n).length, iv (chkS l n)], h ++ [spB (rksR l n)], [b], []⟩ := by
  refine callN_1 rfl hb noIdB_flat (args' := [sl 0 off n c]) (by simp [renV, dep, optAll, idx, nbeq]) (v := .tuple #[sl 1 0 (rksR l n).length (rksR l n).length, iv (chkS l n)]) (news := [spB (rksR l n)]) (go (by decide) ?_) (by intro blk hb; simp only [List.mem_singleton] at hb; subst hb; exact noIdB_flat) (by simp [renV, dep, optAll])
  have a := fun bx => k50 0 off n c (h := .cells cs 2 true own :: bx) rfl hc hn
  rw [run18 _ _ _ (by simp)]
  unfold rksR
  by_cases h1 : chkS l n = 0
  · obtain ⟨n1, n2⟩ := chk_ok h1
    rw [if_pos h1, h1]
    rw [h1] at a
    have this := l18 off n c (own := own) hc n2 n 0 (by omega)
    have hl : (rkR l n).length = n := by simp [rkR]
    rw [hl]
    simp only [spB, List.range_zero, List.map_nil, List.flatMap_nil, Int.natCast_zero] at this ⊢
    generalize (rkR l n).flatMap spG = F at *
    simp (maxSteps := 1000000) (disch := first | omega | decide | assumption | simp [scal]) [lenA_sl lk_22, za_55, o_build za_55 pl_55, sz_55, o_fieldAddr fa_55_0 (by decide), loadA_eq ia_3, sz_3, o_fieldAddr fa_55_1 (by decide), loadA_eq ia_55, o_indexAddrS es_22, ze_22, o_buildSlice es_22 ze_22 (by decide) ba_22_1, ap_22, builtin_append ni_22, a, this]
  · rw [if_neg h1]
    simp only [spB, List.flatMap_nil, List.length_nil]
    simp (maxSteps := 1000000) (disch := first | omega | decide | assumption | simp [scal]) [lenA_sl lk_22, za_55, o_build za_55 pl_55, sz_55, o_fieldAddr fa_55_0 (by decide), loadA_eq ia_3, sz_3, o_fieldAddr fa_55_1 (by decide), loadA_eq ia_55, o_indexAddrS es_22, ze_22, o_buildSlice es_22 ze_22 (by decide) ba_22_1, ap_22, builtin_append ni_22, a, h1]
end
section
variable (off n c : Nat) {cs : List Value} {own : Bool} {l : Nat → Int × Int} (K : Int)
theorem l20 (hn : n ≤ 30) : ∀ (k i : Nat), i + k = n →
    lpB Try.prog LL ⟨20, 59, 1, none⟩ n20_24 n20_25 ⟨[(0, sl 0 off n c), (1, iv K), (7, sl 1 0 n n), (9, sl 2 0 (canF (rkS l n) K i).length (canF (rkS l n) K i).length), (10, sl 3 0 (sureF (rkS l n) K i).length (sureF (rkS l n) K i).length), (11, iv i)], [.cells cs 2 true own, spB (rkR l n), nB (canF (rkS l n) K i), nB (sureF (rkS l n) K i)], []⟩ =
      some (.exit 0, ⟨[(9, sl 1 0 (canF (rkS l n) K n).length (canF (rkS l n) K n).length), (10, sl 2 0 (sureF (rkS l n) K n).length (sureF (rkS l n) K n).length)], [.cells cs 2 true own, nB (canF (rkS l n) K n), nB (sureF (rkS l n) K n)], []⟩) := by
  intro k
  induction k with
  | zero =>
    intro i hi
    obtain rfl : i = n := by omega
    simp only [spB, nB]
    generalize (rkR l i).flatMap spG = F
    generalize canF (rkS l i) K i = C
    generalize sureF (rkS l i) K i = D
    generalize nm C = C1
    generalize nm D = D1
    rw [lpB_eq]
    simp (maxSteps := 1000000) (disch := first | omega | decide | assumption | simp [scal]) [lenA_sl lk_22, o_indexAddrS es_22, o_fieldAddr fa_55_0 (by decide), loadA_eq ia_3, o_indexAddrS es_24, ze_24, o_buildSlice es_24 ze_24 (by decide) ba_24_1, ap_24, builtin_append ni_24, o_fieldAddr fa_55_1 (by decide), want_some q20_6g2]
  | succ k ih =>
    intro i hi
    have e0 : i < n := by omega
    have e1 : (i : Int) < n := by omega
    have this := ih (i + 1) (by omega)
    obtain ⟨p1, p2⟩ := spAt_C (rkR l n) i (by rw [rkR_len]; exact e0)
    rw [rkR_at e0, Nat.zero_add] at p1 p2
    have hc1 : canF (rkS l n) K (i + 1) = if decide ((rkS l n i).1 ≤ K) = true then canF (rkS l n) K i ++ [i] else canF (rkS l n) K i := filt_succ
    have hd1 : sureF (rkS l n) K (i + 1) = if decide ((rkS l n i).2 ≤ K) = true then sureF (rkS l n) K i ++ [i] else sureF (rkS l n) K i := filt_succ
    have lc : (canF (rkS l n) K i).length ≤ i := filt_len
    have ld : (sureF (rkS l n) K i).length ≤ i := filt_len
    rw [hc1, hd1] at this
    clear hc1 hd1 ih
    simp only [spB, nB] at this ⊢
    generalize canF (rkS l n) K n = C2 at *
    generalize sureF (rkS l n) K n = D2 at *
    generalize canF (rkS l n) K i = C at *
    generalize sureF (rkS l n) K i = D at *
    generalize (rkR l n).flatMap spG = F at *
    generalize rkS l n i = z at *
    obtain ⟨z1, z2⟩ := z
    have c1 := fun hp b c rd => app_list (h := hp) (b := b) (c := c) (k := 1) (by' := 8) (l := C.length) (cs := nm C) (new := [iv i]) (rd := rd) (by rw [nm_len]; simp) (by omega) (by omega) rfl
    have c2 := fun hp b c rd => app_list (h := hp) (b := b) (c := c) (k := 1) (by' := 8) (l := D.length) (cs := nm D) (new := [iv i]) (rd := rd) (by rw [nm_len]; simp) (by omega) (by omega) rfl
    have lz : ∀ (x : Nat) (O : List Nat), (O ++ [x]).length = O.length + 1 := fun x O => by simp
    simp only [cast1] at this
    simp only [] at p1 p2
    rw [lpB_eq]
    by_cases h1 : z1 ≤ K <;> by_cases h2 : z2 ≤ K <;> simp only [h1, h2, decide_true, decide_false, Bool.false_eq_true, if_true, if_false, lz, nm_app, nm_one] at this
    · generalize nm C2 = C3 at *
      generalize nm D2 = D3 at *
      generalize nm C = C1 at *
      generalize nm D = D1 at *
      simp (maxSteps := 1000000) (disch := first | omega | decide | assumption | simp [scal]) [lenA_sl lk_22, o_indexAddrS es_22, o_fieldAddr fa_55_0 (by decide), loadA_eq ia_3, o_indexAddrS es_24, ze_24, o_buildSlice es_24 ze_24 (by decide) ba_24_1, ap_24, builtin_append ni_24, o_fieldAddr fa_55_1 (by decide), want_some q20_6g2, e0, e1, p1, p2, h1, h2, append_some ap_24, srcCells, c1, c2, this]
    · generalize nm C2 = C3 at *
      generalize nm D2 = D3 at *
      generalize nm C = C1 at *
      generalize nm D = D1 at *
      simp (maxSteps := 1000000) (disch := first | omega | decide | assumption | simp [scal]) [lenA_sl lk_22, o_indexAddrS es_22, o_fieldAddr fa_55_0 (by decide), loadA_eq ia_3, o_indexAddrS es_24, ze_24, o_buildSlice es_24 ze_24 (by decide) ba_24_1, ap_24, builtin_append ni_24, o_fieldAddr fa_55_1 (by decide), want_some q20_6g2, e0, e1, p1, p2, h1, h2, append_some ap_24, srcCells, c1, c2, this]
    · generalize nm C2 = C3 at *
      generalize nm D2 = D3 at *
      generalize nm C = C1 at *
      generalize nm D = D1 at *
      simp (maxSteps := 1000000) (disch := first | omega | decide | assumption | simp [scal]) [lenA_sl lk_22, o_indexAddrS es_22, o_fieldAddr fa_55_0 (by decide), loadA_eq ia_3, o_indexAddrS es_24, ze_24, o_buildSlice es_24 ze_24 (by decide) ba_24_1, ap_24, builtin_append ni_24, o_fieldAddr fa_55_1 (by decide), want_some q20_6g2, e0, e1, p1, p2, h1, h2, append_some ap_24, srcCells, c1, c2, this]
    · generalize nm C2 = C3 at *
      generalize nm D2 = D3 at *
      generalize nm C = C1 at *
      generalize nm D = D1 at *
      simp (maxSteps := 1000000) (disch := first | omega | decide | assumption | simp [scal]) [lenA_sl lk_22, o_indexAddrS es_22, o_fieldAddr fa_55_0 (by decide), loadA_eq ia_3, o_indexAddrS es_24, ze_24, o_buildSlice es_24 ze_24 (by decide) ba_24_1, ap_24, builtin_append ni_24, o_fieldAddr fa_55_1 (by decide), want_some q20_6g2, e0, e1, p1, p2, h1, h2, append_some ap_24, srcCells, c1, c2, this]
end
section
variable (b off n c : Nat) (K : Int) {cs : List Value} {own : Bool} {l : Nat → Int × Int} {h : List Blk} (hb : h[b]? = some (.cells cs 2 true own)) (hc : SpC cs off n l)
include hb hc
theorem k20 (hn : n ≤ 60) : callH LL 20 [sl b off n c, iv K] h = some ⟨.tuple #[sl h.length 0 (qstC l n K).length (qstC l n K).length, sl (h.length + 1) 0 (qstD l n K).length (qstD l n K).length, iv (qstE l n K)], h ++ [nB (qstC l n K), nB (qstD l n K)], [b], []⟩ := by
  refine callN_1 rfl hb noIdB_flat (args' := [sl 0 off n c, iv K]) (by simp [renV, dep, optAll, idx, nbeq]) (v := .tuple #[sl 1 0 (qstC l n K).length (qstC l n K).length, sl 2 0 (qstD l n K).length (qstD l n K).length, iv (qstE l n K)]) (news := [nB (qstC l n K), nB (qstD l n K)]) (go (by decide) ?_) (by intro blk hb; simp only [List.mem_cons, List.not_mem_nil, or_false] at hb; rcases hb with rfl | rfl <;> exact noIdB_flat) (by simp [renV, dep, optAll])
  have a := k18 0 off n c (h := [.cells cs 2 true own]) rfl hc hn
  unfold rksR at a
  rw [run20 _ _ _ (by simp)]
  unfold qstC qstD qstE
  by_cases h1 : chkS l n = 0
  · obtain ⟨n1, n2⟩ := chk_ok h1
    rw [if_pos h1, h1, rkR_len] at a
    cases h2 : (decide (1 ≤ K) && decide (K ≤ (n : Int)))
    · simp only [h1, Bool.false_eq_true, and_false, if_false, nB, nm_nil, List.length_nil, ne_eq, not_true]
      simp only [spB] at a
      generalize (rkR l n).flatMap spG = F at *
      simp (maxSteps := 1000000) (disch := first | omega | decide | assumption | simp [scal]) [lenA_sl lk_22, o_indexAddrS es_22, o_fieldAddr fa_55_0 (by decide), loadA_eq ia_3, o_indexAddrS es_24, ze_24, o_buildSlice es_24 ze_24 (by decide) ba_24_1, ap_24, builtin_append ni_24, o_fieldAddr fa_55_1 (by decide), want_some q20_6g2, a, k58, h2]
    · have this := l20 off n c (cs := cs) (own := own) (l := l) K n2 n 0 (by omega)
      have f0 : canF (rkS l n) K 0 = [] := rfl
      have f1 : sureF (rkS l n) K 0 = [] := rfl
      simp only [f0, f1, List.length_nil, Int.natCast_zero] at this
      simp only [h1, h2, and_self, if_true, ne_eq, not_true, if_false]
      simp only [spB, nB, nm_nil] at a this ⊢
      generalize (rkR l n).flatMap spG = F at *
      generalize canF (rkS l n) K n = C at *
      generalize sureF (rkS l n) K n = D at *
      generalize nm C = C1 at *
      generalize nm D = D1 at *
      simp (maxSteps := 1000000) (disch := first | omega | decide | assumption | simp [scal]) [lenA_sl lk_22, o_indexAddrS es_22, o_fieldAddr fa_55_0 (by decide), loadA_eq ia_3, o_indexAddrS es_24, ze_24, o_buildSlice es_24 ze_24 (by decide) ba_24_1, ap_24, builtin_append ni_24, o_fieldAddr fa_55_1 (by decide), want_some q20_6g2, a, k58, h2, this]
  · rw [if_neg h1] at a
    simp only [h1, false_and, if_false, nB, nm_nil, List.length_nil, ne_eq, not_false_eq_true, if_true]
    simp only [spB, List.flatMap_nil, List.length_nil] at a
    simp (maxSteps := 1000000) (disch := first | omega | decide | assumption | simp [scal]) [lenA_sl lk_22, o_indexAddrS es_22, o_fieldAddr fa_55_0 (by decide), loadA_eq ia_3, o_indexAddrS es_24, ze_24, o_buildSlice es_24 ze_24 (by decide) ba_24_1, ap_24, builtin_append ni_24, o_fieldAddr fa_55_1 (by decide), want_some q20_6g2, a, h1]
end
section
variable (L : List Nat)
theorem l21 (hL : L.length ≤ 60) : ∀ (k i : Nat), i + k = L.length →
    lpB Try.prog LL ⟨21, 26, 2, none⟩ n21_14 n21_15 ⟨[(0, sl 0 0 L.length L.length), (1, sl 1 0 L.length L.length), (5, iv i)], [nB L, nB L], []⟩ =
      some (.exit 0, ⟨[], [nB L, nB L], []⟩) := by
  intro k
  induction k with
  | zero =>
    intro i hi
    obtain rfl : i = L.length := by omega
    simp only [nB]
    generalize nm L = M
    rw [lpB_eq]
    simp (maxSteps := 1000000) (disch := first | omega | decide | assumption | simp [scal]) [lenA_sl lk_24, o_indexAddrS es_24, loadA_eq ia_3]
  | succ k ih =>
    intro i hi
    have e0 : i < L.length := by omega
    have e1 : (i : Int) < L.length := by omega
    have this := ih (i + 1) (by omega)
    have p1 := nm_get e0
    simp only [nB] at this ⊢
    simp only [cast1] at this
    generalize L.getD i 0 = x at *
    generalize nm L = M at *
    rw [lpB_eq]
    simp (maxSteps := 1000000) (disch := first | omega | decide | assumption | simp [scal]) [lenA_sl lk_24, o_indexAddrS es_24, loadA_eq ia_3, e0, e1, p1, this]
theorem k21 (b b2 : Nat) {h : List Blk} (hb : h[b]? = some (nB L)) (hb2 : h[b2]? = some (nB L)) (hne : b ≠ b2) (hL : L.length ≤ 60) : callH LL 21 [sl b 0 L.length L.length, sl b2 0 L.length L.length] h = some ⟨.bool true, h, [b, b2], []⟩ := by
  refine callH_2 rfl hb hb2 hne noIdB_flat noIdB_flat (so_ren hne rfl) (go (by decide) ?_) fun _ => rfl
  have this := l21 L hL L.length 0 (by omega)
  simp only [nB, Int.natCast_zero] at this ⊢
  generalize nm L = M at *
  rw [run21 _ _ _ (by simp)]
  simp (maxSteps := 1000000) (disch := first | omega | decide | assumption | simp [scal]) [lenA_sl lk_24, o_indexAddrS es_24, loadA_eq ia_3, this]
end
section
variable (R : List (Int × Int))
theorem l22 (hR : R.length ≤ 60) : ∀ (k i : Nat), i + k = R.length →
    lpB Try.prog LL ⟨22, 26, 2, none⟩ n22_14 n22_15 ⟨[(0, sl 0 0 R.length R.length), (1, sl 1 0 R.length R.length), (5, iv i)], [spB R, spB R], []⟩ =
      some (.exit 0, ⟨[], [spB R, spB R], []⟩) := by
  intro k
  induction k with
  | zero =>
    intro i hi
    obtain rfl : i = R.length := by omega
    simp only [spB]
    generalize R.flatMap spG = M
    rw [lpB_eq]
    simp (maxSteps := 1000000) (disch := first | omega | decide | assumption | simp [scal]) [lenA_sl lk_22, o_indexAddrS es_22, loadA_eq ia_55]
  | succ k ih =>
    intro i hi
    have e0 : i < R.length := by omega
    have e1 : (i : Int) < R.length := by omega
    have this := ih (i + 1) (by omega)
    obtain ⟨p1, p2⟩ := spAt_C R i e0
    rw [Nat.zero_add] at p1 p2
    simp only [spB] at this ⊢
    simp only [cast1] at this
    generalize spAt R i = z at *
    obtain ⟨z1, z2⟩ := z
    simp only [] at p1 p2
    generalize R.flatMap spG = M at *
    rw [lpB_eq]
    simp (maxSteps := 1000000) (disch := first | omega | decide | assumption | simp [scal]) [lenA_sl lk_22, o_indexAddrS es_22, loadA_eq ia_55, e0, e1, p1, p2, neq55, this]
theorem k22 (b b2 : Nat) {h : List Blk} (hb : h[b]? = some (spB R)) (hb2 : h[b2]? = some (spB R)) (hne : b ≠ b2) (hR : R.length ≤ 60) : callH LL 22 [sl b 0 R.length R.length, sl b2 0 R.length R.length] h = some ⟨.bool true, h, [b, b2], []⟩ := by
  refine callH_2 rfl hb hb2 hne noIdB_flat noIdB_flat (so_ren hne rfl) (go (by decide) ?_) fun _ => rfl
  have this := l22 R hR R.length 0 (by omega)
  simp only [spB, Int.natCast_zero] at this ⊢
  generalize R.flatMap spG = M at *
  rw [run22 _ _ _ (by simp)]
  simp (maxSteps := 1000000) (disch := first | omega | decide | assumption | simp [scal]) [lenA_sl lk_22, o_indexAddrS es_22, loadA_eq ia_55, this]
end
end Go.Proofs.Ytfccmddkblbeoaa.rk
namespace Go.Proofs.Ytfccmddkblbeoaa.rk
open Go.GE
set_option linter.unusedVariables false
set_option linter.unusedSimpArgs false
set_option linter.unusedSectionVars false
set_option maxRecDepth 100000
set_option maxHeartbeats 4000000
attribute [local simp] runOps_nil runOps_cons runOpsF_nil runOpsF_cons fstS_some fstF_some opStep_eq want_none oStep_true oStep_false fin_pure fin_read fin_alloc fin_write storeB wrN cellV addWr o_move o_assign o_pick o_alloc o_box o_load o_store o_nilCheck o_bin o_un o_extract o_callV o_callB o_callI callV_f callV_y callV_fc o_makeFunc partsA Instr.fill builtin_len builtin_max2 bin_add bin_sub bin_mul bin_quo bin_rem bin_lss bin_leq bin_gtr bin_geq bin_eql bin_neq un_neg un_not bin_shr bin_shl wrap_u64_id opd opds optAll putO nbeq nblt constOk isC ops sub cl cr co bodyOf thenS_normal thenS_ret thenS_exit thenS_goto afterN_normal afterN_ret afterN_exit afterN_goto condS_true condS_false blockS_normal blockS_ret blockS_exit blockS_goto headS normS normK_eq fixS_nil fixS_cons fix1 fixV emptyB keepO_nil keepO_cons roundC_normal roundC_exit roundC_ret roundC_goto sweep_eq sweepD rnm pickR pickW rootsB ptrT renT ptrFn renFn ptrB_flat ptrB_non renB_flat renB_non plainS_some drawS_some fpsOk disj unord range' dropTo enumT undef wrap_i64_id Value.cells mkCells ptrTo scal cellsAt rdN endS_ret resultsA Option.bind_some tupV finish reachN dep ptrL_eq ptrL renL_eq renL ptrV_bool ptrV_int ptrV_string ptrV_nilFunc ptrV_nilIface ptrV_nilPtr ptrV_ptr ptrV_nilSl ptrV_sl ptrV_iface ptrV_agg ptrV_tuple ptrV_func renV_bool renV_int renV_string renV_nilFunc renV_nilIface renV_nilPtr renV_ptr renV_nilSl renV_sl renV_iface renV_agg renV_tuple renV_func gotoS_goto gotoS_normal gotoS_exit gotoS_ret skip_seq sliceE bnd bndHi intOf optOpd keepT_nil keepT_cons keepC_t keepC_f lk_nil lk_cons lkC_t lkC_f has_nil has_cons hasC_t hasC_f rep_nil rep_cons repC_t repC_f put_eq putC_t putC_f mem_nil mem_cons memC_t memC_f idx_nil idx_cons idxC_t idxC_f reach_nil reachP_cons reachQ_t reachQ_f ptrB_dead renB_dead ins_eq
attribute [local simp] n71_1s n71_3s n71_4s n71_2s n71_0s Try.f71 n54_1s n54_3s n54_4s n54_2s n54_0s Try.f54 n53_1s n53_4s n53_7s n53_8s n53_6s n53_9s n53_5s n53_3s n53_11s n53_14s n53_18s n53_21s n53_22s n53_20s n53_26s n53_28s n53_31s n53_32s n53_30s n53_33s n53_29s n53_27s n53_25s n53_24s n53_34s n53_23s n53_19s n53_17s n53_16s n53_16g n53_15s n53_13s n53_36s n53_37s n53_35s n53_12s n53_10s n53_2s n53_0s Try.f53 n16_1s n16_3s n16_6s n16_9s n16_10s n16_8s n16_11s n16_7s n16_5s n16_13s n16_15s n16_21s n16_23s n16_24s n16_22s n16_20s n16_27s n16_32s n16_34s n16_35s n16_33s n16_31s n16_39s n16_42s n16_47s n16_49s n16_50s n16_48s n16_46s n16_53s n16_52s n16_54s n16_51s n16_45s n16_44s n16_44g n16_43s n16_41s n16_56s n16_59s n16_60s n16_58s n16_61s n16_57s n16_55s n16_40s n16_38s n16_37s n16_62s n16_36s n16_30s n16_29s n16_29g n16_28s n16_26s n16_25s n16_19s n16_18s n16_18g n16_17s n16_64s n16_65s n16_63s n16_16s n16_14s n16_12s n16_4s n16_2s n16_0s Try.f16
theorem k71 (M i : Nat) (hM : M < 2 ^ 32) (hi : i < 32) (h : List Blk) : callH LL 71 [wv M, iv i] h = some ⟨.bool (M.testBit i), h, [], []⟩ := by
  refine callH_none rfl (fun _ => rfl) (go (by decide) ?_) fun _ => rfl
  have f1 := @fdiv_poww M i hi
  have hq : M / 2 ^ i < 2 ^ 32 := by have := Nat.div_le_self M (2 ^ i); omega
  have f2 := fun c => @bin_and1w Try.prog 77 c _ hq
  rw [Nat.testBit_eq_decide_div_mod_eq]
  generalize M / 2 ^ i = q at *
  rw [run71 _ _ _ (by simp)]
  by_cases h1 : q % 2 = 1
  · have h1' := eq_true (show (q : Int) % 2 = 1 by omega)
    simp (maxSteps := 1000000) (disch := first | omega | decide | assumption | simp [scal]) [f1, f2, h1, h1']
  · have h1' : ¬ (q : Int) % 2 = 1 := by omega
    simp (maxSteps := 1000000) (disch := first | omega | decide | assumption | simp [scal]) [f1, f2, h1, h1']
theorem k54 (M i : Nat) (hM : M < 2 ^ 32) (hi : i < 32) (h : List Blk) : callH LL 54 [wv M, iv i] h = some ⟨wv (M ||| 2 ^ i), h, [], []⟩ := by
  refine callH_none rfl (fun _ => rfl) (go (by decide) ?_) fun _ => rfl
  have f3 := shl_poww hi
  have p1 : 2 ^ i < 2 ^ 32 := Nat.pow_lt_pow_right (by decide) hi
  have f4 := fun c => @bin_orw Try.prog 77 c M (2 ^ i) hM p1
  generalize ((2 ^ i : Nat) : Int) = Q at *
  rw [run54 _ _ _ (by simp)]
  simp (maxSteps := 1000000) (disch := first | omega | decide | assumption | simp [scal]) [f3, f4]
/-- no day that is left, from the j-th one on, is surely quieter -/
def nxK (l : Nat → Int × Int) (M i : Nat) : Nat → Nat → Bool
  | 0, _ => true
  | k + 1, j => if !M.testBit j && quiet l j i then false else nxK l M i k (j + 1)
def nxB (l : Nat → Int × Int) (n M i : Nat) : Bool := !M.testBit i && nxK l M i n 0
section
variable (off n c : Nat) {cs : List Value} {own : Bool} {l : Nat → Int × Int}
theorem l53 (hc : SpC cs off n l) (hn : n ≤ 30) (M i : Nat) (hM : M < 2 ^ 32) (hi : i < n) : ∀ (k j : Nat), j + k = n →
    lpB Try.prog LL ⟨53, 30, 1, none⟩ n53_16 n53_17 ⟨[(1, wv M), (2, iv i), (7, .func (.func 77) #[sl 0 off n c] #[]), (15, iv n), (16, iv j)], [.cells cs 2 true own], []⟩ =
      if nxK l M i k j = true then some (.exit 0, ⟨[], [.cells cs 2 true own], []⟩) else some (.ret, ⟨[(6, .bool false)], [.cells cs 2 true own], []⟩) := by
  intro k
  induction k with
  | zero =>
    intro j hj
    obtain rfl : j = n := by omega
    rw [lpB_eq]
    simp (maxSteps := 1000000) (disch := first | omega | decide | assumption | simp [scal]) [lenA_sl lk_78, want_some q53_28g4, nxK]
  | succ k ih =>
    intro j hj
    have e1 : (j : Int) < n := by omega
    have a1 := fun bx => k77 0 off n c (h := .cells cs 2 true own :: bx) rfl hc j i (by omega) hi
    have a2 := k71 M j hM (by omega)
    have this := ih (j + 1) (by omega)
    unfold nxK
    simp only [cast1] at this
    generalize quiet l j i = x at *
    generalize M.testBit j = y at *
    rw [lpB_eq]
    cases x <;> cases y <;> simp only [Bool.not_true, Bool.not_false, Bool.and_true, Bool.and_false, Bool.false_eq_true, if_false, if_true]
    · simp (maxSteps := 1000000) (disch := first | omega | decide | assumption | simp [scal]) [lenA_sl lk_78, want_some q53_28g4, e1, a1, a2, callV_fc, this]
    · simp (maxSteps := 1000000) (disch := first | omega | decide | assumption | simp [scal]) [lenA_sl lk_78, want_some q53_28g4, e1, a1, a2, callV_fc, this]
    · simp (maxSteps := 1000000) (disch := first | omega | decide | assumption | simp [scal]) [lenA_sl lk_78, want_some q53_28g4, e1, a1, a2, callV_fc]
    · simp (maxSteps := 1000000) (disch := first | omega | decide | assumption | simp [scal]) [lenA_sl lk_78, want_some q53_28g4, e1, a1, a2, callV_fc, this]
end
section
variable (b off n c : Nat) {cs : List Value} {own : Bool} {l : Nat → Int × Int} {h : List Blk} (hb : h[b]? = some (.cells cs 2 true own)) (hc : SpC cs off n l)
include hb hc
theorem k53 (hn : n ≤ 30) (M i : Nat) (hM : M < 2 ^ 32) (hi : i < n) : callH LL 53 [sl b off n c, wv M, iv i] h = some ⟨.bool (nxB l n M i), h, [b], []⟩ := by
  refine callH_1 rfl hb noIdB_flat (args' := [sl 0 off n c, wv M, iv i]) (by simp [renV, dep, optAll, idx, nbeq]) (go (by decide) ?_) fun _ => rfl
  have a2 := k71 M i hM (by omega)
  have this := l53 off n c (own := own) hc hn M i hM hi n 0 (by omega)
  simp only [Int.natCast_zero] at this
  unfold nxB
  rw [run53 _ _ _ (by simp)]
  generalize M.testBit i = y at *
  cases y
  · cases h1 : nxK l M i n 0 <;> rw [h1] at this <;> simp only [Bool.false_eq_true, if_false, if_true] at this
    · simp (maxSteps := 1000000) (disch := first | omega | decide | assumption | simp [scal]) [lenA_sl lk_78, want_some q53_28g4, a2, this]
    · simp (maxSteps := 1000000) (disch := first | omega | decide | assumption | simp [scal]) [lenA_sl lk_78, want_some q53_28g4, a2, this]
  · simp (maxSteps := 1000000) (disch := first | omega | decide | assumption | simp [scal]) [lenA_sl lk_78, want_some q53_28g4, a2]
end
/-- the first day that can come next -/
def selK (l : Nat → Int × Int) (n M : Nat) : Nat → Nat → Option Nat
  | 0, _ => none
  | k + 1, i => if nxB l n M i = true then some i else selK l n M k (i + 1)
/-- the first order, with q days left -/
def fsL (l : Nat → Int × Int) (n : Nat) : Nat → Nat → List Nat
  | 0, _ => []
  | q + 1, M => match selK l n M n 0 with
    | none => []
    | some i => i :: fsL l n q (M ||| 2 ^ i)
def uB (M n : Nat) : List Value := (List.range n).map fun k => .bool (M.testBit k)
theorem uB_len {M n : Nat} : (uB M n).length = n := by simp [uB]
theorem uB_get {M n k : Nat} (h : k < n) : (uB M n)[k]? = some (.bool (M.testBit k)) := by simp [uB, h]
theorem uB_set {M n i : Nat} (h : i < n) : (uB M n).set i (.bool true) = uB (M ||| 2 ^ i) n := by
  apply List.ext_getElem?
  intro j
  rw [List.getElem?_set, uB_len]
  by_cases hj : i = j
  · subst hj
    rw [if_pos rfl, if_pos h, uB_get h]
    simp [Nat.testBit_or, Nat.testBit_two_pow]
  · rw [if_neg hj]
    by_cases hn : j < n
    · rw [uB_get hn, uB_get hn]
      simp [Nat.testBit_or, Nat.testBit_two_pow, hj]
    · rw [List.getElem?_eq_none (by rw [uB_len]; omega), List.getElem?_eq_none (by rw [uB_len]; omega)]
theorem uB_zero {n : Nat} : uB 0 n = List.replicate n (.bool false) := by
  apply List.ext_getElem?
  intro j
  by_cases hn : j < n
  · simp [uB, hn]
  · rw [List.getElem?_eq_none (by rw [uB_len]; omega), List.getElem?_eq_none (by simp; omega)]
section
variable (off n c : Nat) {cs : List Value} {own : Bool} {l : Nat → Int × Int} (O : List Nat) (M : Nat)
theorem l16i (hc : SpC cs off n l) (hn : n ≤ 30) (i : Nat) (hi : i < n) : ∀ (k j : Nat) (f : Bool), j + k = n →
    lpB Try.prog LL ⟨16, 63, 1, none⟩ n16_44 n16_45 ⟨[(8, .bool f), (9, iv j), (7, iv i), (0, sl 0 off n c), (5, sl 1 0 O.length O.length), (6, sl 2 0 n n)], [.cells cs 2 true own, nB O, .cells (uB M n) 1 true true], []⟩ =
      some (.exit 4, ⟨[(8, .bool (f && nxK l M i k j)), (7, iv i), (0, sl 0 off n c), (5, sl 1 0 O.length O.length), (6, sl 2 0 n n)], [.cells cs 2 true own, nB O, .cells (uB M n) 1 true true], []⟩) := by
  intro k
  induction k with
  | zero =>
    intro j f hj
    obtain rfl : j = n := by omega
    simp only [nB, nxK, Bool.and_true]
    generalize nm O = N
    generalize uB M j = U
    rw [lpB_eq]
    simp (maxSteps := 1000000) (disch := first | omega | decide | assumption | simp [scal]) [lenA_sl lk_22, lenA_sl lk_24, o_indexAddrS es_81, loadA_eq ia_4, o_indexAddrS es_24, ze_24, o_buildSlice es_24 ze_24 (by decide) ba_24_1, ap_24, builtin_append ni_24, sz_4, want_some q16_53g1, want_some q16_53g6]
  | succ k ih =>
    intro j f hj
    have e0 : j < n := by omega
    have e1 : (j : Int) < n := by omega
    have a1 := fun bx => k55 0 off n c (h := .cells cs 2 true own :: bx) rfl hc j i (by omega) hi
    have p1 := uB_get (M := M) e0
    have t1 := ih (j + 1) true (by omega)
    have t0 := ih (j + 1) false (by omega)
    unfold nxK
    simp only [nB] at t1 t0 ⊢
    simp only [cast1, Bool.true_and, Bool.false_and] at t1 t0
    generalize nxK l M i k (j + 1) = Z at *
    generalize quiet l j i = x at *
    generalize M.testBit j = y at *
    generalize nm O = N at *
    generalize uB M n = U at *
    rw [lpB_eq]
    cases f
    · simp (maxSteps := 1000000) (disch := first | omega | decide | assumption | simp [scal]) [lenA_sl lk_22, lenA_sl lk_24, o_indexAddrS es_81, loadA_eq ia_4, o_indexAddrS es_24, ze_24, o_buildSlice es_24 ze_24 (by decide) ba_24_1, ap_24, builtin_append ni_24, sz_4, want_some q16_53g1, want_some q16_53g6, e0, e1, p1, t0]
    · cases y
      · cases x
        · simp (maxSteps := 1000000) (disch := first | omega | decide | assumption | simp [scal]) [lenA_sl lk_22, lenA_sl lk_24, o_indexAddrS es_81, loadA_eq ia_4, o_indexAddrS es_24, ze_24, o_buildSlice es_24 ze_24 (by decide) ba_24_1, ap_24, builtin_append ni_24, sz_4, want_some q16_53g1, want_some q16_53g6, e0, e1, p1, a1, t1]
        · simp (maxSteps := 1000000) (disch := first | omega | decide | assumption | simp [scal]) [lenA_sl lk_22, lenA_sl lk_24, o_indexAddrS es_81, loadA_eq ia_4, o_indexAddrS es_24, ze_24, o_buildSlice es_24 ze_24 (by decide) ba_24_1, ap_24, builtin_append ni_24, sz_4, want_some q16_53g1, want_some q16_53g6, e0, e1, p1, a1, t0]
      · simp (maxSteps := 1000000) (disch := first | omega | decide | assumption | simp [scal]) [lenA_sl lk_22, lenA_sl lk_24, o_indexAddrS es_81, loadA_eq ia_4, o_indexAddrS es_24, ze_24, o_buildSlice es_24 ze_24 (by decide) ba_24_1, ap_24, builtin_append ni_24, sz_4, want_some q16_53g1, want_some q16_53g6, e0, e1, p1, t1]
end
end Go.Proofs.Ytfccmddkblbeoaa.rk
namespace Go.Proofs.Ytfccmddkblbeoaa.rk
open Go.GE
set_option linter.unusedVariables false
set_option linter.unusedSimpArgs false
set_option linter.unusedSectionVars false
set_option maxRecDepth 100000
set_option maxHeartbeats 4000000
attribute [local simp] runOps_nil runOps_cons runOpsF_nil runOpsF_cons fstS_some fstF_some opStep_eq want_none oStep_true oStep_false fin_pure fin_read fin_alloc fin_write storeB wrN cellV addWr o_move o_assign o_pick o_alloc o_box o_load o_store o_nilCheck o_bin o_un o_extract o_callV o_callB o_callI callV_f callV_y callV_fc o_makeFunc partsA Instr.fill builtin_len builtin_max2 bin_add bin_sub bin_mul bin_quo bin_rem bin_lss bin_leq bin_gtr bin_geq bin_eql bin_neq un_neg un_not bin_shr bin_shl wrap_u64_id opd opds optAll putO nbeq nblt constOk isC ops sub cl cr co bodyOf thenS_normal thenS_ret thenS_exit thenS_goto afterN_normal afterN_ret afterN_exit afterN_goto condS_true condS_false blockS_normal blockS_ret blockS_exit blockS_goto headS normS normK_eq fixS_nil fixS_cons fix1 fixV emptyB keepO_nil keepO_cons roundC_normal roundC_exit roundC_ret roundC_goto sweep_eq sweepD rnm pickR pickW rootsB ptrT renT ptrFn renFn ptrB_flat ptrB_non renB_flat renB_non plainS_some drawS_some fpsOk disj unord range' dropTo enumT undef wrap_i64_id Value.cells mkCells ptrTo scal cellsAt rdN endS_ret resultsA Option.bind_some tupV finish reachN dep ptrL_eq ptrL renL_eq renL ptrV_bool ptrV_int ptrV_string ptrV_nilFunc ptrV_nilIface ptrV_nilPtr ptrV_ptr ptrV_nilSl ptrV_sl ptrV_iface ptrV_agg ptrV_tuple ptrV_func renV_bool renV_int renV_string renV_nilFunc renV_nilIface renV_nilPtr renV_ptr renV_nilSl renV_sl renV_iface renV_agg renV_tuple renV_func gotoS_goto gotoS_normal gotoS_exit gotoS_ret skip_seq sliceE bnd bndHi intOf optOpd keepT_nil keepT_cons keepC_t keepC_f lk_nil lk_cons lkC_t lkC_f has_nil has_cons hasC_t hasC_f rep_nil rep_cons repC_t repC_f put_eq putC_t putC_f mem_nil mem_cons memC_t memC_f idx_nil idx_cons idxC_t idxC_f reach_nil reachP_cons reachQ_t reachQ_f ptrB_dead renB_dead ins_eq
attribute [local simp] n16_1s n16_3s n16_6s n16_9s n16_10s n16_8s n16_11s n16_7s n16_5s n16_13s n16_15s n16_21s n16_23s n16_24s n16_22s n16_20s n16_27s n16_32s n16_34s n16_35s n16_33s n16_31s n16_39s n16_42s n16_47s n16_49s n16_50s n16_48s n16_46s n16_53s n16_52s n16_54s n16_51s n16_45s n16_44s n16_44g n16_43s n16_41s n16_56s n16_59s n16_60s n16_58s n16_61s n16_57s n16_55s n16_40s n16_38s n16_37s n16_62s n16_36s n16_30s n16_29s n16_29g n16_28s n16_26s n16_25s n16_19s n16_18s n16_18g n16_17s n16_64s n16_65s n16_63s n16_16s n16_14s n16_12s n16_4s n16_2s n16_0s Try.f16
theorem nxK_iff {l : Nat → Int × Int} {M i : Nat} : ∀ k j, nxK l M i k j = true ↔ ∀ t, j ≤ t → t < j + k → M.testBit t = true ∨ quiet l t i = false := by
  intro k
  induction k with
  | zero => intro j; simp only [nxK, true_iff]; intro t h1 h2; omega
  | succ k ih =>
    intro j
    unfold nxK
    cases h1 : M.testBit j <;> cases h2 : quiet l j i <;> simp only [Bool.not_true, Bool.not_false, Bool.and_true, Bool.and_false, Bool.false_eq_true, if_false, if_true, ih, false_iff]
    · constructor
      · intro h t a b
        by_cases ht : t = j
        · subst ht; exact .inr h2
        · exact h t (by omega) (by omega)
      · intro h t a b; exact h t (by omega) (by omega)
    · intro h
      rcases h j (by omega) (by omega) with g | g
      · rw [h1] at g; cases g
      · rw [h2] at g; cases g
    · constructor
      · intro h t a b
        by_cases ht : t = j
        · subst ht; exact .inl h1
        · exact h t (by omega) (by omega)
      · intro h t a b; exact h t (by omega) (by omega)
    · constructor
      · intro h t a b
        by_cases ht : t = j
        · subst ht; exact .inl h1
        · exact h t (by omega) (by omega)
      · intro h t a b; exact h t (by omega) (by omega)
theorem selK_some {l : Nat → Int × Int} {n M : Nat} : ∀ k i, (∃ x, i ≤ x ∧ x < i + k ∧ nxB l n M x = true) → ∃ r, selK l n M k i = some r ∧ i ≤ r ∧ r < i + k ∧ nxB l n M r = true := by
  intro k
  induction k with
  | zero => rintro i ⟨x, h1, h2, _⟩; omega
  | succ k ih =>
    rintro i ⟨x, h1, h2, h3⟩
    unfold selK
    by_cases h : nxB l n M i = true
    · rw [if_pos h]; exact ⟨i, rfl, by omega, by omega, h⟩
    · rw [if_neg h]
      obtain ⟨r, g1, g2, g3, g4⟩ := ih (i + 1) ⟨x, by
        by_cases hx : x = i
        · subst hx; exact absurd h3 h
        · omega, by omega, h3⟩
      exact ⟨r, g1, by omega, by omega, g4⟩
theorem selK_in {l : Nat → Int × Int} {n M : Nat} : ∀ k i r, selK l n M k i = some r → i ≤ r ∧ r < i + k ∧ nxB l n M r = true := by
  intro k
  induction k with
  | zero => intro i r h; cases h
  | succ k ih =>
    intro i r h
    unfold selK at h
    by_cases h' : nxB l n M i = true
    · rw [if_pos h'] at h; cases h; exact ⟨by omega, by omega, h'⟩
    · rw [if_neg h'] at h
      have := ih (i + 1) r h
      exact ⟨by omega, by omega, this.2.2⟩
/-- how many of the first n days are left -/
def cntU : Nat → Nat → Nat
  | 0, _ => 0
  | n + 1, M => cntU n M + if M.testBit n then 0 else 1
theorem bit_or {M i t : Nat} : (M ||| 2 ^ i).testBit t = (M.testBit t || decide (i = t)) := by rw [Nat.testBit_or, Nat.testBit_two_pow]
theorem cntU_ge {M i : Nat} : ∀ n, n ≤ i → cntU n (M ||| 2 ^ i) = cntU n M := by
  intro n
  induction n with
  | zero => intro _; rfl
  | succ n ih =>
    intro h
    simp only [cntU, ih (by omega), bit_or, show ¬ i = n by omega, decide_false, Bool.or_false]
theorem cntU_lt {M i : Nat} (hM : M.testBit i = false) : ∀ n, i < n → cntU n (M ||| 2 ^ i) + 1 = cntU n M := by
  intro n
  induction n with
  | zero => intro h; omega
  | succ n ih =>
    intro h
    by_cases hi : i = n
    · subst hi
      simp only [cntU, cntU_ge i (Nat.le_refl _), bit_or, decide_true, Bool.or_true, hM, if_true]
      simp
    · have := ih (by omega)
      simp only [cntU, bit_or, hi, decide_false, Bool.or_false]
      omega
theorem cntU_zero {n : Nat} : cntU n 0 = n := by
  induction n with
  | zero => rfl
  | succ n ih => simp [cntU, ih]
theorem cntU_min {l : Nat → Int × Int} {M : Nat} : ∀ n, 0 < cntU n M → ∃ i, i < n ∧ M.testBit i = false ∧ ∀ k, k < n → M.testBit k = false → (l i).1 ≤ (l k).1 := by
  intro n
  induction n with
  | zero => intro h; simp [cntU] at h
  | succ n ih =>
    intro h
    by_cases h0 : 0 < cntU n M
    · obtain ⟨i, h1, h2, h3⟩ := ih h0
      by_cases hn : M.testBit n = false ∧ (l n).1 < (l i).1
      · refine ⟨n, by omega, hn.1, fun k hk hm => ?_⟩
        by_cases e : k = n
        · subst e; omega
        · have := h3 k (by omega) hm; omega
      · refine ⟨i, by omega, h2, fun k hk hm => ?_⟩
        by_cases e : k = n
        · subst e
          have : ¬ (l k).1 < (l i).1 := fun hh => hn ⟨hm, hh⟩
          omega
        · exact h3 k (by omega) hm
    · have hb : M.testBit n = false := by
        cases hb : M.testBit n
        · rfl
        · simp only [cntU, hb, if_true] at h; omega
      refine ⟨n, by omega, hb, fun k hk hm => ?_⟩
      by_cases e : k = n
      · subst e; omega
      · exfalso
        have : ∀ n k, k < n → M.testBit k = false → 0 < cntU n M := by
          intro n
          induction n with
          | zero => intro k hk; omega
          | succ n ih =>
            intro k hk hm
            simp only [cntU]
            by_cases e : k = n
            · subst e; rw [hm]; simp
            · have := ih k (by omega) hm; omega
        exact h0 (this n k (by omega) hm)
theorem fs_len {l : Nat → Int × Int} {n : Nat} (hl : ∀ i, i < n → (l i).1 ≤ (l i).2) : ∀ q M, cntU n M = q → (fsL l n q M).length = q := by
  intro q
  induction q with
  | zero => intro M _; rfl
  | succ q ih =>
    intro M hM
    unfold fsL
    obtain ⟨i, h1, h2, h3⟩ := cntU_min (l := l) (M := M) n (by omega)
    obtain ⟨r, g1, g2, g3, g4⟩ := selK_some (l := l) (n := n) (M := M) n 0 ⟨i, by omega, by omega, by
      unfold nxB
      rw [h2, Bool.not_false, Bool.true_and, nxK_iff]
      intro t a b
      cases ht : M.testBit t
      · refine .inr ?_
        unfold quiet
        have := h3 t (by omega) ht
        have := hl t (by omega)
        simp only [decide_eq_false_iff_not]; omega
      · exact .inl rfl⟩
    rw [g1]
    have hb : M.testBit r = false := by
      unfold nxB at g4
      simp only [Bool.and_eq_true, Bool.not_eq_true'] at g4
      exact g4.1
    have := cntU_lt hb n (by omega)
    simp only [List.length_cons]
    rw [ih _ (by omega)]
theorem chk_le {l : Nat → Int × Int} {n : Nat} (h : chkS l n = 0) : ∀ i, i < n → (l i).1 ≤ (l i).2 := by
  obtain ⟨n0, n30⟩ := chk_ok h
  unfold chkS at h
  rw [if_neg (by omega), if_neg (by omega)] at h
  have ha : anyB l n 0 = false := by
    cases hb : anyB l n 0
    · rfl
    · rw [hb, if_pos rfl] at h; omega
  intro i hi
  have := any_iff.1 ha i hi
  unfold bad at this
  simp only [Bool.or_eq_false_iff, Bool.not_eq_false', Bool.and_eq_true, decide_eq_true_eq] at this
  omega
section
variable (off n c : Nat) {cs : List Value} {own : Bool} {l : Nat → Int × Int}
theorem l16m (hc : SpC cs off n l) (hn : n ≤ 30) (O : List Nat) (hO : O.length < n) (M : Nat) : ∀ (k i : Nat), i + k = n →
    lpB Try.prog LL ⟨16, 63, 1, none⟩ n16_29 n16_30 ⟨[(7, iv i), (0, sl 0 off n c), (5, sl 1 0 O.length O.length), (6, sl 2 0 n n)], [.cells cs 2 true own, nB O, .cells (uB M n) 1 true true], []⟩ =
      match selK l n M k i with
      | none => some (.exit 2, ⟨[(0, sl 0 off n c), (5, sl 1 0 O.length O.length), (6, sl 2 0 n n)], [.cells cs 2 true own, nB O, .cells (uB M n) 1 true true], []⟩)
      | some x => some (.exit 2, ⟨[(0, sl 0 off n c), (5, sl 1 0 (O.length + 1) (O.length + 1)), (6, sl 2 0 n n)], [.cells cs 2 true own, nB (O ++ [x]), .cells (uB (M ||| 2 ^ x) n) 1 true true], []⟩) := by
  intro k
  induction k with
  | zero =>
    intro i hi
    obtain rfl : i = n := by omega
    simp only [nB, selK]
    generalize nm O = N
    generalize uB M i = U
    rw [lpB_eq]
    simp (maxSteps := 1000000) (disch := first | omega | decide | assumption | simp [scal]) [lenA_sl lk_22, lenA_sl lk_24, o_indexAddrS es_81, loadA_eq ia_4, o_indexAddrS es_24, ze_24, o_buildSlice es_24 ze_24 (by decide) ba_24_1, ap_24, builtin_append ni_24, sz_4, want_some q16_53g1, want_some q16_53g6]
  | succ k ih =>
    intro i hi
    have e0 : i < n := by omega
    have e1 : (i : Int) < n := by omega
    have this := ih (i + 1) (by omega)
    have inn := l16i off n c (own := own) (l := l) O M hc hn i e0 n 0 (!M.testBit i) (by omega)
    rw [show (!M.testBit i && nxK l M i n 0) = nxB l n M i from rfl] at inn
    have p1 := uB_get (M := M) e0
    have u1 := uB_set (M := M) e0
    have ul := uB_len (M := M) (n := n)
    have c1 := fun hp b c rd => app_list (h := hp) (b := b) (c := c) (k := 1) (by' := 8) (l := O.length) (cs := nm O) (new := [iv i]) (rd := rd) (by rw [nm_len]; simp) (by omega) (by omega) rfl
    unfold selK
    simp only [nB] at this inn ⊢
    simp only [cast1, Int.natCast_zero] at this inn
    cases h : nxB l n M i
    · rw [h] at inn
      simp only [Bool.false_eq_true, if_false]
      generalize nm O = N at *
      generalize uB M n = U at *
      generalize M.testBit i = y at *
      have e2 : i < U.length := by omega
      obtain ⟨_, p1⟩ := List.getElem?_eq_some_iff.1 p1
      rw [lpB_eq]
      simp (maxSteps := 1000000) (disch := first | omega | decide | assumption | simp [scal]) [lenA_sl lk_22, lenA_sl lk_24, o_indexAddrS es_81, loadA_eq ia_4, o_indexAddrS es_24, ze_24, o_buildSlice es_24 ze_24 (by decide) ba_24_1, ap_24, builtin_append ni_24, sz_4, want_some q16_53g1, want_some q16_53g6, e0, e1, e2, p1, ul, inn, this]
    · rw [h] at inn
      simp only [if_true]
      rw [← u1, nm_app, nm_one]
      generalize nm O = N at *
      generalize uB M n = U at *
      generalize M.testBit i = y at *
      have e2 : i < U.length := by omega
      obtain ⟨_, p1⟩ := List.getElem?_eq_some_iff.1 p1
      rw [lpB_eq]
      simp (maxSteps := 1000000) (disch := first | omega | decide | assumption | simp [scal]) [lenA_sl lk_22, lenA_sl lk_24, o_indexAddrS es_81, loadA_eq ia_4, o_indexAddrS es_24, ze_24, o_buildSlice es_24 ze_24 (by decide) ba_24_1, ap_24, builtin_append ni_24, sz_4, want_some q16_53g1, want_some q16_53g6, e0, e1, e2, p1, ul, inn, append_some ap_24, srcCells, c1]
theorem l16 (hc : SpC cs off n l) (hn : n ≤ 30) : ∀ (q M : Nat) (O : List Nat), O.length + q = n → (fsL l n q M).length = q →
    lpB Try.prog LL ⟨16, 63, 1, none⟩ n16_18 n16_19 ⟨[(0, sl 0 off n c), (5, sl 1 0 O.length O.length), (6, sl 2 0 n n)], [.cells cs 2 true own, nB O, .cells (uB M n) 1 true true], []⟩ =
      some (.exit 0, ⟨[(5, sl 1 0 n n)], [.cells cs 2 true own, nB (O ++ fsL l n q M)], []⟩) := by
  intro q
  induction q with
  | zero =>
    intro M O hO _
    obtain rfl : O.length = n := by omega
    simp only [nB, fsL, List.append_nil]
    generalize nm O = N
    generalize uB M O.length = U
    rw [lpB_eq]
    simp (maxSteps := 1000000) (disch := first | omega | decide | assumption | simp [scal]) [lenA_sl lk_22, lenA_sl lk_24, o_indexAddrS es_81, loadA_eq ia_4, o_indexAddrS es_24, ze_24, o_buildSlice es_24 ze_24 (by decide) ba_24_1, ap_24, builtin_append ni_24, sz_4, want_some q16_53g1, want_some q16_53g6]
  | succ q ih =>
    intro M O hO hf
    have e0 : O.length < n := by omega
    have e1 : (O.length : Int) < n := by omega
    have mid := l16m off n c (own := own) hc hn O e0 M n 0 (by omega)
    unfold fsL at hf ⊢
    cases h : selK l n M n 0 with
    | none => rw [h] at hf; simp at hf
    | some x =>
      rw [h] at mid hf
      simp only [List.length_cons, Nat.add_right_cancel_iff] at hf
      have this := ih (M ||| 2 ^ x) (O ++ [x]) (by simp; omega) hf
      rw [List.append_assoc, List.singleton_append] at this
      simp only [nB, List.length_append, List.length_cons, List.length_nil, Nat.zero_add] at this
      simp only [nB, Int.natCast_zero] at mid ⊢
      generalize nm (O ++ x :: fsL l n q (M ||| 2 ^ x)) = F at *
      generalize nm (O ++ [x]) = N1 at *
      generalize nm O = N at *
      generalize uB M n = U at *
      generalize uB (M ||| 2 ^ x) n = U1 at *
      generalize O.length = L at *
      rw [lpB_eq]
      simp (maxSteps := 1000000) (disch := first | omega | decide | assumption | simp [scal]) [lenA_sl lk_22, lenA_sl lk_24, o_indexAddrS es_81, loadA_eq ia_4, o_indexAddrS es_24, ze_24, o_buildSlice es_24 ze_24 (by decide) ba_24_1, ap_24, builtin_append ni_24, sz_4, want_some q16_53g1, want_some q16_53g6, e0, e1, mid, this]
end
end Go.Proofs.Ytfccmddkblbeoaa.rk
namespace Go.Proofs.Ytfccmddkblbeoaa.rk
open Go.GE
set_option linter.unusedVariables false
set_option linter.unusedSimpArgs false
set_option linter.unusedSectionVars false
set_option maxRecDepth 100000
set_option maxHeartbeats 4000000
attribute [local simp] runOps_nil runOps_cons runOpsF_nil runOpsF_cons fstS_some fstF_some opStep_eq want_none oStep_true oStep_false fin_pure fin_read fin_alloc fin_write storeB wrN cellV addWr o_move o_assign o_pick o_alloc o_box o_load o_store o_nilCheck o_bin o_un o_extract o_callV o_callB o_callI callV_f callV_y callV_fc o_makeFunc partsA Instr.fill builtin_len builtin_max2 bin_add bin_sub bin_mul bin_quo bin_rem bin_lss bin_leq bin_gtr bin_geq bin_eql bin_neq un_neg un_not bin_shr bin_shl wrap_u64_id opd opds optAll putO nbeq nblt constOk isC ops sub cl cr co bodyOf thenS_normal thenS_ret thenS_exit thenS_goto afterN_normal afterN_ret afterN_exit afterN_goto condS_true condS_false blockS_normal blockS_ret blockS_exit blockS_goto headS normS normK_eq fixS_nil fixS_cons fix1 fixV emptyB keepO_nil keepO_cons roundC_normal roundC_exit roundC_ret roundC_goto sweep_eq sweepD rnm pickR pickW rootsB ptrT renT ptrFn renFn ptrB_flat ptrB_non renB_flat renB_non plainS_some drawS_some fpsOk disj unord range' dropTo enumT undef wrap_i64_id Value.cells mkCells ptrTo scal cellsAt rdN endS_ret resultsA Option.bind_some tupV finish reachN dep ptrL_eq ptrL renL_eq renL ptrV_bool ptrV_int ptrV_string ptrV_nilFunc ptrV_nilIface ptrV_nilPtr ptrV_ptr ptrV_nilSl ptrV_sl ptrV_iface ptrV_agg ptrV_tuple ptrV_func renV_bool renV_int renV_string renV_nilFunc renV_nilIface renV_nilPtr renV_ptr renV_nilSl renV_sl renV_iface renV_agg renV_tuple renV_func gotoS_goto gotoS_normal gotoS_exit gotoS_ret skip_seq sliceE bnd bndHi intOf optOpd keepT_nil keepT_cons keepC_t keepC_f lk_nil lk_cons lkC_t lkC_f has_nil has_cons hasC_t hasC_f rep_nil rep_cons repC_t repC_f put_eq putC_t putC_f mem_nil mem_cons memC_t memC_f idx_nil idx_cons idxC_t idxC_f reach_nil reachP_cons reachQ_t reachQ_f ptrB_dead renB_dead ins_eq
attribute [local simp] n16_1s n16_3s n16_6s n16_9s n16_10s n16_8s n16_11s n16_7s n16_5s n16_13s n16_15s n16_21s n16_23s n16_24s n16_22s n16_20s n16_27s n16_32s n16_34s n16_35s n16_33s n16_31s n16_39s n16_42s n16_47s n16_49s n16_50s n16_48s n16_46s n16_53s n16_52s n16_54s n16_51s n16_45s n16_44s n16_44g n16_43s n16_41s n16_56s n16_59s n16_60s n16_58s n16_61s n16_57s n16_55s n16_40s n16_38s n16_37s n16_62s n16_36s n16_30s n16_29s n16_29g n16_28s n16_26s n16_25s n16_19s n16_18s n16_18g n16_17s n16_64s n16_65s n16_63s n16_16s n16_14s n16_12s n16_4s n16_2s n16_0s Try.f16
theorem mk81 {σ : Tm} {h : List Blk} {d : Option Nat} {ty : TypeId} {pos : String} {af : Array Edge} {g : Option (Nat × Bool)} {x y : Operand} : aop Try.prog LL σ h ⟨d, .makeSlice 81 x y, ty, pos, af, g⟩ = (match opd σ x, opd σ y with
    | some (.int _ n), some (.int _ k) => if 0 ≤ n ∧ n ≤ k ∧ k ≤ 70368744177664 then allocR h (.cells (List.replicate k.toNat (.bool false)) 1 true true) fun b => .slice (some ⟨b, 0, none⟩) n.toNat k.toNat else none
    | _, _ => none) := by
  have e1 : Try.prog.underlying 81 = some (.slice 4) := by kernel_rfl
  have e2 : (Try.prog.info? 4).map (fun i => (i.bytes, i.size)) = some (1, 1) := by kernel_rfl
  have e3 : zeroA Try.prog 4 = some (.bool false) := by kernel_rfl
  obtain ⟨i, hi, hp⟩ := Option.map_eq_some_iff.1 e2
  obtain ⟨h8, h1⟩ := Prod.mk.inj hp
  have hfl : ∀ k : Nat, (List.replicate k [Value.bool false]).flatten = List.replicate k (.bool false) := fun k => List.flatten_replicate_singleton
  simp only [aop, e1, e2, e3, hi, h8, h1]
  cases opd σ x with
  | none => rfl
  | some v =>
    cases v <;> try rfl
    cases opd σ y with
    | none => rfl
    | some w =>
      cases w <;> try rfl
      rename_i k1 n k2 m
      simp only [e3, hi, h8, h1]
      by_cases hc : 0 ≤ n ∧ n ≤ m ∧ m ≤ 70368744177664
      · rw [if_pos hc, if_pos ⟨hc.1, hc.2.1, by have := hc.2.2; omega, by have := hc.2.2; omega, by decide, rfl⟩]
        show allocR h (.cells ((List.replicate m.toNat [Value.bool false]).flatten) 1 true true) _ = _
        rw [hfl]
      · rw [if_neg hc, if_neg (fun h => hc ⟨h.1, h.2.1, by have := h.2.2.2.1; omega⟩)]
def fstR (l : Nat → Int × Int) (n : Nat) : List Nat := if chkS l n = 0 then fsL l n n 0 else []
theorem fstR_len {l : Nat → Int × Int} {n : Nat} (h : chkS l n = 0) : (fsL l n n 0).length = n := fs_len (chk_le h) n 0 cntU_zero
section
variable (b off n c : Nat) {cs : List Value} {own : Bool} {l : Nat → Int × Int} {h : List Blk} (hb : h[b]? = some (.cells cs 2 true own)) (hc : SpC cs off n l)
include hb hc
theorem k16 (hn : n ≤ 60) : callH LL 16 [sl b off n c] h = some ⟨.tuple #[sl h.length 0 (fstR l n).length (fstR l n).length, iv (chkS l n)], h ++ [nB (fstR l n)], [b], []⟩ := by
  refine callN_1 rfl hb noIdB_flat (args' := [sl 0 off n c]) (by simp [renV, dep, optAll, idx, nbeq]) (v := .tuple #[sl 1 0 (fstR l n).length (fstR l n).length, iv (chkS l n)]) (news := [nB (fstR l n)]) (go (by decide) ?_) (by intro blk hb; simp only [List.mem_singleton] at hb; subst hb; exact noIdB_flat) (by simp [renV, dep, optAll])
  have a := fun bx => k50 0 off n c (h := .cells cs 2 true own :: bx) rfl hc hn
  rw [run16 _ _ _ (by simp)]
  unfold fstR
  by_cases h1 : chkS l n = 0
  · obtain ⟨n1, n2⟩ := chk_ok h1
    rw [if_pos h1, h1]
    rw [h1] at a
    have hl := fstR_len h1
    have this := l16 off n c (own := own) hc n2 n 0 [] (by simp) hl
    have m1 : (n : Int) ≤ 70368744177664 := by omega
    rw [hl]
    rw [uB_zero] at this
    simp only [nB, List.nil_append, List.length_nil, nm_nil, Int.natCast_zero] at this ⊢
    generalize nm (fsL l n n 0) = F at *
    simp (maxSteps := 1000000) (disch := first | omega | decide | assumption | simp [scal]) [lenA_sl lk_22, lenA_sl lk_24, o_indexAddrS es_81, loadA_eq ia_4, o_indexAddrS es_24, ze_24, o_buildSlice es_24 ze_24 (by decide) ba_24_1, ap_24, builtin_append ni_24, sz_4, want_some q16_53g1, want_some q16_53g6, a, mk81, m1, this]
  · rw [if_neg h1]
    simp only [nB, nm_nil, List.length_nil]
    simp (maxSteps := 1000000) (disch := first | omega | decide | assumption | simp [scal]) [lenA_sl lk_22, lenA_sl lk_24, o_indexAddrS es_81, loadA_eq ia_4, o_indexAddrS es_24, ze_24, o_buildSlice es_24 ze_24 (by decide) ba_24_1, ap_24, builtin_append ni_24, sz_4, want_some q16_53g1, want_some q16_53g6, a, h1]
end
end Go.Proofs.Ytfccmddkblbeoaa.rk
namespace Go.Proofs.Ytfccmddkblbeoaa.rk
open Go.GE
set_option linter.unusedVariables false
set_option linter.unusedSimpArgs false
set_option linter.unusedSectionVars false
set_option maxRecDepth 100000
set_option maxHeartbeats 4000000
attribute [local simp] runOps_nil runOps_cons runOpsF_nil runOpsF_cons fstS_some fstF_some opStep_eq want_none oStep_true oStep_false fin_pure fin_read fin_alloc fin_write storeB wrN cellV addWr o_move o_assign o_pick o_alloc o_box o_load o_store o_nilCheck o_bin o_un o_extract o_callV o_callB o_callI callV_f callV_y callV_fc o_makeFunc partsA Instr.fill builtin_len builtin_max2 bin_add bin_sub bin_mul bin_quo bin_rem bin_lss bin_leq bin_gtr bin_geq bin_eql bin_neq un_neg un_not bin_shr bin_shl wrap_u64_id opd opds optAll putO nbeq nblt constOk isC ops sub cl cr co bodyOf thenS_normal thenS_ret thenS_exit thenS_goto afterN_normal afterN_ret afterN_exit afterN_goto condS_true condS_false blockS_normal blockS_ret blockS_exit blockS_goto headS normS normK_eq fixS_nil fixS_cons fix1 fixV emptyB keepO_nil keepO_cons roundC_normal roundC_exit roundC_ret roundC_goto sweep_eq sweepD rnm pickR pickW rootsB ptrT renT ptrFn renFn ptrB_flat ptrB_non renB_flat renB_non plainS_some drawS_some fpsOk disj unord range' dropTo enumT undef wrap_i64_id Value.cells mkCells ptrTo scal cellsAt rdN endS_ret resultsA Option.bind_some tupV finish reachN dep ptrL_eq ptrL renL_eq renL ptrV_bool ptrV_int ptrV_string ptrV_nilFunc ptrV_nilIface ptrV_nilPtr ptrV_ptr ptrV_nilSl ptrV_sl ptrV_iface ptrV_agg ptrV_tuple ptrV_func renV_bool renV_int renV_string renV_nilFunc renV_nilIface renV_nilPtr renV_ptr renV_nilSl renV_sl renV_iface renV_agg renV_tuple renV_func gotoS_goto gotoS_normal gotoS_exit gotoS_ret skip_seq sliceE bnd bndHi intOf optOpd keepT_nil keepT_cons keepC_t keepC_f lk_nil lk_cons lkC_t lkC_f has_nil has_cons hasC_t hasC_f rep_nil rep_cons repC_t repC_f put_eq putC_t putC_f mem_nil mem_cons memC_t memC_f idx_nil idx_cons idxC_t idxC_f reach_nil reachP_cons reachQ_t reachQ_f ptrB_dead renB_dead ins_eq
attribute [local simp] n52_1s n52_4s n52_8s n52_11s n52_12s n52_10s n52_16s n52_18s n52_21s n52_22s n52_20s n52_23s n52_19s n52_17s n52_15s n52_14s n52_24s n52_13s n52_9s n52_7s n52_6s n52_6g n52_5s n52_3s n52_26s n52_27s n52_25s n52_2s n52_0s Try.f52
abbrev bxB (b off n c : Nat) : Blk := .cells [sl b off n c] 1 false true
abbrev clB (b1 b2 : Nat) : Blk := .cells [.func (.func 52) #[] #[pp b1, pp b2]] 1 false true
section
variable (off n c : Nat) {cs : List Value} {own : Bool} {l : Nat → Int × Int} (O : List Nat) (M : Nat)
theorem l52 (hc : SpC cs off n l) (hn : n ≤ 30) (hM : M < 2 ^ 32) (hO : O.length ≤ 30) (F : Nat → List Nat) (z : Bool)
    (hz : ∀ r, selK l n M n 0 = some r → callH LL 52 [sl 5 0 (O.length + 1) (O.length + 1), wv (M ||| 2 ^ r), pp 1, pp 3] [.dead, bxB 2 off n c, .cells cs 2 true own, clB 1 3, .cells [iv r] 1 true true, nB (O ++ [r])] =
      if z = true then some ⟨sl 5 0 (F r).length (F r).length, [.dead, bxB 2 off n c, .cells cs 2 true own, clB 1 3, .cells [iv r] 1 true true, nB (F r)], [5, 1, 2, 3], []⟩
      else some ⟨sl 6 0 (F r).length (F r).length, [.dead, bxB 2 off n c, .cells cs 2 true own, clB 1 3, .cells [iv r] 1 true true, .dead, nB (F r)], [5, 1, 2, 3], [5]⟩) : ∀ (k i : Nat), i + k = n → selK l n M n 0 = selK l n M k i →
    lpB Try.prog LL ⟨52, 33, 4, none⟩ n52_6 n52_7 ⟨[(0, sl 0 0 O.length O.length), (1, wv M), (2, pp 1), (3, pp 3), (9, iv n), (10, iv i)], [nB O, bxB 2 off n c, .cells cs 2 true own, clB 1 3], []⟩ =
      match selK l n M k i with
      | none => some (.exit 0, ⟨[(0, sl 0 0 O.length O.length)], [nB O, bxB 2 off n c, .cells cs 2 true own, clB 1 3], []⟩)
      | some r => some (.ret, ⟨[(6, sl 4 0 (F r).length (F r).length)], [.dead, bxB 2 off n c, .cells cs 2 true own, clB 1 3, nB (F r)], [0]⟩) := by
  intro k
  induction k with
  | zero =>
    intro i hi hs
    obtain rfl : i = n := by omega
    simp only [nB, selK]
    generalize nm O = N
    rw [lpB_eq]
    simp (maxSteps := 1000000) (disch := first | omega | decide | assumption | simp [scal]) [loadA_eq ia_22, lenA_sl lk_22, loadA_eq ia_75, lenA_sl lk_24, o_sliceS sl_24, o_indexAddrS es_24, ze_24, o_buildSlice es_24 ze_24 (by decide) ba_24_1, ap_24, builtin_append ni_24]
  | succ k ih =>
    intro i hi hs
    have e0 : i < n := by omega
    have e1 : (i : Int) < n := by omega
    have a1 := fun b0 b1 bx => k53 2 off n c (h := b0 :: b1 :: .cells cs 2 true own :: bx) rfl hc hn M i hM e0
    have a2 := k54 M i hM (by omega)
    have hs' : selK l n M n 0 = if nxB l n M i = true then some i else selK l n M k (i + 1) := hs
    replace hs := hs'
    clear hs'
    rw [show selK l n M (k + 1) i = if nxB l n M i = true then some i else selK l n M k (i + 1) from rfl]
    cases h : nxB l n M i
    · rw [h] at a1 hs
      simp only [Bool.false_eq_true, if_false] at hs ⊢
      have this := ih (i + 1) (by omega) hs
      simp only [nB] at this ⊢
      simp only [cast1] at this
      clear ih hz
      generalize nm O = N at *
      rw [lpB_eq]
      simp (maxSteps := 1000000) (disch := first | omega | decide | assumption | simp [scal]) [loadA_eq ia_22, lenA_sl lk_22, loadA_eq ia_75, lenA_sl lk_24, o_sliceS sl_24, o_indexAddrS es_24, ze_24, o_buildSlice es_24 ze_24 (by decide) ba_24_1, ap_24, builtin_append ni_24, e0, e1, a1, this]
    · rw [h] at a1 hs
      simp only [if_true] at hs ⊢
      have hz := hz i hs
      have c1 : ∀ (hp : List Blk) (b c : Nat) (y0 y1 y2 y3 : Blk) (bx : List Blk), appS hp 1 8 b 0 O.length c (some (.cells (nm O) 1 true true)) (srcCells (y0 :: y1 :: y2 :: y3 :: .cells [iv i] 1 true true :: bx) 1 (.slice (some ⟨4, 0, none⟩) 1 1)) =
          some ⟨.slice (some ⟨hp.length, 0, none⟩) (O.length + 1) (O.length + 1), hp.set b .dead ++ [.cells (nm (O ++ [i])) 1 true true], [b, 4], [b]⟩ := fun hp b c y0 y1 y2 y3 bx => by
        rw [nm_app, nm_one]
        exact app_src (h := hp) (h' := y0 :: y1 :: y2 :: y3 :: .cells [iv i] 1 true true :: bx) (b := b) (c := c) (k := 1) (by' := 8) (l := O.length) (b2 := 4) (o2 := 0) (n := 1) (c2 := 1) (cs := nm O) (cs2 := [iv i]) (by rw [nm_len]; simp) rfl (by simp) (by omega) (by omega) (by omega) rfl
      simp only [nB] at hz ⊢
      clear ih
      generalize M ||| 2 ^ i = M2 at *
      generalize nm (O ++ [i]) = N2 at *
      generalize nm (F i) = F2 at *
      generalize (F i).length = Fn at *
      have hOn := nm_len (L := O)
      generalize nm O = N at *
      cases z
      · simp only [Bool.false_eq_true, if_false] at hz
        rw [lpB_eq]
        simp (maxSteps := 1000000) (disch := first | omega | decide | assumption | simp [scal]) [loadA_eq ia_22, lenA_sl lk_22, loadA_eq ia_75, lenA_sl lk_24, o_sliceS sl_24, o_indexAddrS es_24, ze_24, o_buildSlice es_24 ze_24 (by decide) ba_24_1, ap_24, builtin_append ni_24, e0, e1, a1, a2, append_some ap_24, c1, callV_fc, hz, hOn]
      · simp only [if_true] at hz
        rw [lpB_eq]
        simp (maxSteps := 1000000) (disch := first | omega | decide | assumption | simp [scal]) [loadA_eq ia_22, lenA_sl lk_22, loadA_eq ia_75, lenA_sl lk_24, o_sliceS sl_24, o_indexAddrS es_24, ze_24, o_buildSlice es_24 ze_24 (by decide) ba_24_1, ap_24, builtin_append ni_24, e0, e1, a1, a2, append_some ap_24, c1, callV_fc, hz, hOn]
end
end Go.Proofs.Ytfccmddkblbeoaa.rk
namespace Go.Proofs.Ytfccmddkblbeoaa.rk
open Go.GE
set_option linter.unusedVariables false
set_option linter.unusedSimpArgs false
set_option linter.unusedSectionVars false
set_option maxRecDepth 100000
set_option maxHeartbeats 4000000
attribute [local simp] runOps_nil runOps_cons runOpsF_nil runOpsF_cons fstS_some fstF_some opStep_eq want_none oStep_true oStep_false fin_pure fin_read fin_alloc fin_write storeB wrN cellV addWr o_move o_assign o_pick o_alloc o_box o_load o_store o_nilCheck o_bin o_un o_extract o_callV o_callB o_callI callV_f callV_y callV_fc o_makeFunc partsA Instr.fill builtin_len builtin_max2 bin_add bin_sub bin_mul bin_quo bin_rem bin_lss bin_leq bin_gtr bin_geq bin_eql bin_neq un_neg un_not bin_shr bin_shl wrap_u64_id opd opds optAll putO nbeq nblt constOk isC ops sub cl cr co bodyOf thenS_normal thenS_ret thenS_exit thenS_goto afterN_normal afterN_ret afterN_exit afterN_goto condS_true condS_false blockS_normal blockS_ret blockS_exit blockS_goto headS normS normK_eq fixS_nil fixS_cons fix1 fixV emptyB keepO_nil keepO_cons roundC_normal roundC_exit roundC_ret roundC_goto sweep_eq sweepD rnm pickR pickW rootsB ptrT renT ptrFn renFn ptrB_flat ptrB_non renB_flat renB_non plainS_some drawS_some fpsOk disj unord range' dropTo enumT undef wrap_i64_id Value.cells mkCells ptrTo scal cellsAt rdN endS_ret resultsA Option.bind_some tupV finish reachN dep ptrL_eq ptrL renL_eq renL ptrV_bool ptrV_int ptrV_string ptrV_nilFunc ptrV_nilIface ptrV_nilPtr ptrV_ptr ptrV_nilSl ptrV_sl ptrV_iface ptrV_agg ptrV_tuple ptrV_func renV_bool renV_int renV_string renV_nilFunc renV_nilIface renV_nilPtr renV_ptr renV_nilSl renV_sl renV_iface renV_agg renV_tuple renV_func gotoS_goto gotoS_normal gotoS_exit gotoS_ret skip_seq sliceE bnd bndHi intOf optOpd keepT_nil keepT_cons keepC_t keepC_f lk_nil lk_cons lkC_t lkC_f has_nil has_cons hasC_t hasC_f rep_nil rep_cons repC_t repC_f put_eq putC_t putC_f mem_nil mem_cons memC_t memC_f idx_nil idx_cons idxC_t idxC_f reach_nil reachP_cons reachQ_t reachQ_f ptrB_dead renB_dead ins_eq
attribute [local simp] n52_1s n52_4s n52_8s n52_11s n52_12s n52_10s n52_16s n52_18s n52_21s n52_22s n52_20s n52_23s n52_19s n52_17s n52_15s n52_14s n52_24s n52_13s n52_9s n52_7s n52_6s n52_6g n52_5s n52_3s n52_26s n52_27s n52_25s n52_2s n52_0s Try.f52 n15_1s n15_4s n15_6s n15_9s n15_10s n15_8s n15_11s n15_7s n15_5s n15_3s n15_13s n15_15s n15_17s n15_18s n15_16s n15_14s n15_12s n15_2s n15_0s Try.f15
/-- a call, a step at a time -/
theorem callH_lit {f : FuncId} {args args' : List Value} {h hm h' : List Blk} {roots ρ : List Nat} {rr : RR} {v : Value} {rd wr : List Nat} (hk : idle LL f args) (h1 : args.flatMap (ptrV dep) = roots) (h2 : reach h 0 reachN roots [] = ρ) (h3 : optAll (renV (idx ρ) dep) args = some args')
    (h4 : optAll (pickB h (idx ρ)) ρ = some hm) (h5 : LL.run f args' hm = some rr) (h6 : mergeB h ρ rr = some ⟨v, h', rd, wr⟩) (hrd : ∀ b, b ∈ rd → b < h.length) : callH LL f args h = some ⟨v, h', rd, wr⟩ := by
  refine callH_of hk ?_ hrd
  subst h1 h2
  show (match optAll (renV (idx _) dep) args, optAll (pickB h (idx _)) _ with
    | some args', some hm => match LL.run f args' hm with
      | some rr => mergeB h _ rr
      | none => none
    | _, _ => none) = _
  rw [h3, h4]
  simp only [h5]
  exact h6
theorem cntU_none {M : Nat} : ∀ n, cntU n M = 0 → ∀ i, i < n → M.testBit i = true := by
  intro n
  induction n with
  | zero => intro _ i hi; omega
  | succ n ih =>
    intro h i hi
    simp only [cntU] at h
    by_cases e : i = n
    · subst e
      cases hb : M.testBit i
      · rw [hb] at h; simp at h
      · rfl
    · exact ih (by omega) i (by omega)
theorem sel_zero {l : Nat → Int × Int} {n M : Nat} (h : cntU n M = 0) : selK l n M n 0 = none := by
  cases hs : selK l n M n 0 with
  | none => rfl
  | some r =>
    obtain ⟨_, h2, h3⟩ := selK_in n 0 r hs
    unfold nxB at h3
    rw [cntU_none n h r (by omega)] at h3
    simp at h3
theorem sel_succ {l : Nat → Int × Int} {n M q : Nat} (hl : ∀ i, i < n → (l i).1 ≤ (l i).2) (h : cntU n M = q + 1) : ∃ r, selK l n M n 0 = some r ∧ r < n ∧ M.testBit r = false ∧ cntU n (M ||| 2 ^ r) = q := by
  obtain ⟨i, h1, h2, h3⟩ := cntU_min (l := l) (M := M) n (by omega)
  obtain ⟨r, g1, g2, g3, g4⟩ := selK_some (l := l) (n := n) (M := M) n 0 ⟨i, by omega, by omega, by
    unfold nxB
    rw [h2, Bool.not_false, Bool.true_and, nxK_iff]
    intro t a b
    cases ht : M.testBit t
    · refine .inr ?_
      unfold quiet
      have := h3 t (by omega) ht
      have := hl t (by omega)
      simp only [decide_eq_false_iff_not]; omega
    · exact .inl rfl⟩
  have hb : M.testBit r = false := by
    unfold nxB at g4
    simp only [Bool.and_eq_true, Bool.not_eq_true'] at g4
    exact g4.1
  have := cntU_lt hb n (by omega)
  exact ⟨r, g1, by omega, hb, by omega⟩
section
variable (off n c : Nat) {cs : List Value} {own : Bool} {l : Nat → Int × Int}
theorem rch52 (b4 b5 : Blk) (h5 : ptrB b5 = []) : reach [.dead, bxB 2 off n c, .cells cs 2 true own, clB 1 3, b4, b5] 0 reachN [5, 1, 3] [] = [5, 1, 2, 3] := by
  simp only [reachP_cons, nblt, nbeq, mem_nil, mem_cons, memC_t, memC_f, reachQ_f, reachQ_t, Bool.or_false, Bool.or_true, Bool.false_or, Bool.true_or, decide_false, decide_true, Nat.not_lt_zero, rootsB, List.getElem?_cons_succ, List.getElem?_cons_zero, ptrB_non, ptrB_flat, ptrL_eq, ptrL, ptrV_bool, ptrV_int, ptrV_string, ptrV_nilFunc, ptrV_nilIface, ptrV_nilPtr, ptrV_nilSl, ptrV_iface, ptrV_agg, ptrV_tuple, ptrV_func, ptrV_ptr, ptrV_sl, dep, ptrFn, List.nil_append, List.cons_append, List.append_nil, reach_nil, reachN, Nat.reduceEqDiff, Nat.reduceAdd, Nat.reduceSub, reduceCtorEq, Nat.reduceLT, Nat.lt_irrefl, List.flatMap_cons, List.flatMap_nil, optAll, renL_eq, renL, renB_flat, renB_non, renV_bool, renV_int, renV_string, renV_nilFunc, renV_nilIface, renV_nilPtr, renV_ptr, renV_nilSl, renV_sl, renV_iface, renV_agg, renV_tuple, renV_func, renFn, idx_nil, idx_cons, idxC_t, idxC_f, Option.map_some, Option.map_none, h5]
theorem c52 (hc : SpC cs off n l) (hn : n ≤ 30) (hl : ∀ i, i < n → (l i).1 ≤ (l i).2) : ∀ (q M : Nat) (O : List Nat), cntU n M = q → M < 2 ^ n → O.length + q ≤ 30 →
    LL.run 52 [sl 0 0 O.length O.length, wv M, pp 1, pp 3] [nB O, bxB 2 off n c, .cells cs 2 true own, clB 1 3] =
      if q = 0 then some ⟨sl 0 0 O.length O.length, [], []⟩ else some ⟨sl 4 0 (O ++ fsL l n q M).length (O ++ fsL l n q M).length, [nB (O ++ fsL l n q M)], [(0, .dead)]⟩ := by
  intro q
  induction q with
  | zero =>
    intro M O hM h2 h3
    have hM32 : M < 2 ^ 32 := Nat.lt_of_lt_of_le h2 (Nat.pow_le_pow_right (by decide) (by omega))
    have lp := l52 off n c (own := own) O M hc hn hM32 (by omega) (fun _ => []) false (by rw [sel_zero hM]; intro r hr; cases hr) n 0 (by omega) rfl
    rw [sel_zero hM] at lp
    refine go (by decide) ?_
    rw [run52 _ _ _ (by simp)]
    simp only [nB, Int.natCast_zero] at lp ⊢
    generalize nm O = N at *
    simp (maxSteps := 1000000) (disch := first | omega | decide | assumption | simp [scal]) [loadA_eq ia_22, lenA_sl lk_22, loadA_eq ia_75, lenA_sl lk_24, o_sliceS sl_24, o_indexAddrS es_24, ze_24, o_buildSlice es_24 ze_24 (by decide) ba_24_1, ap_24, builtin_append ni_24, lp]
  | succ q ih =>
    intro M O hM h2 h3
    have hM32 : M < 2 ^ 32 := Nat.lt_of_lt_of_le h2 (Nat.pow_le_pow_right (by decide) (by omega))
    obtain ⟨r, hr, rn, rb, rq⟩ := sel_succ hl hM
    have h2' : M ||| 2 ^ r < 2 ^ n := Nat.or_lt_two_pow h2 (Nat.pow_lt_pow_right (by decide) rn)
    have hi := ih (M ||| 2 ^ r) (O ++ [r]) rq h2' (by simp; omega)
    have hfs : fsL l n (q + 1) M = r :: fsL l n q (M ||| 2 ^ r) := by simp only [fsL, hr]
    have lp := l52 off n c (own := own) O M hc hn hM32 (by omega) (fun r => (O ++ [r]) ++ fsL l n q (M ||| 2 ^ r)) (decide (q = 0)) (by
      intro r' hr'
      rw [hr] at hr'
      cases hr'
      have hp : ([sl 5 0 (O.length + 1) (O.length + 1), wv (M ||| 2 ^ r), pp 1, pp 3] : List Value).flatMap (ptrV dep) = [5, 1, 3] := rfl
      have hk : idle LL 52 [sl 5 0 (O.length + 1) (O.length + 1), wv (M ||| 2 ^ r), pp 1, pp 3] := by intro _; first | trivial | rfl
      have e1 : (O ++ [r]).length = O.length + 1 := by simp
      rw [e1] at hi
      by_cases hq : q = 0
      · subst hq
        rw [if_pos rfl] at hi
        simp only [decide_true, if_true, fsL, List.append_nil, e1]
        exact callH_lit hk hp (rch52 off n c _ _ rfl) rfl rfl hi (by simp [mergeB, renV_int, dep, optAll]) (by simp)
      · rw [if_neg hq] at hi
        simp only [hq, decide_false, Bool.false_eq_true, if_false]
        simp only [nB] at hi ⊢
        generalize ((O ++ [r]) ++ fsL l n q (M ||| 2 ^ r)).length = Z at *
        generalize nm ((O ++ [r]) ++ fsL l n q (M ||| 2 ^ r)) = Y at *
        exact callH_lit hk hp (rch52 off n c _ _ rfl) rfl rfl hi (by simp [mergeB, renV_sl, dep, optAll, renB_flat, renB_dead]) (by simp)) n 0 (by omega) rfl
    rw [hr] at lp
    have e2 : O ++ r :: fsL l n q (M ||| 2 ^ r) = (O ++ [r]) ++ fsL l n q (M ||| 2 ^ r) := by simp
    rw [if_neg (by omega), hfs, e2]
    refine go (by decide) ?_
    rw [run52 _ _ _ (by simp)]
    simp only [nB, Int.natCast_zero] at lp ⊢
    generalize ((O ++ [r]) ++ fsL l n q (M ||| 2 ^ r)).length = Z at *
    generalize nm ((O ++ [r]) ++ fsL l n q (M ||| 2 ^ r)) = Y at *
    generalize nm O = N at *
    simp (maxSteps := 1000000) (disch := first | omega | decide | assumption | simp [scal]) [loadA_eq ia_22, lenA_sl lk_22, loadA_eq ia_75, lenA_sl lk_24, o_sliceS sl_24, o_indexAddrS es_24, ze_24, o_buildSlice es_24 ze_24 (by decide) ba_24_1, ap_24, builtin_append ni_24, lp]
theorem rch15 : reach [.cells cs 2 true own, bxB 0 off n c, clB 1 2, .cells [] 1 true true] 0 reachN [3, 1, 2] [] = [3, 1, 0, 2] := by
  simp only [reachP_cons, nblt, nbeq, mem_nil, mem_cons, memC_t, memC_f, reachQ_f, reachQ_t, Bool.or_false, Bool.or_true, Bool.false_or, Bool.true_or, decide_false, decide_true, Nat.not_lt_zero, rootsB, List.getElem?_cons_succ, List.getElem?_cons_zero, ptrB_non, ptrB_flat, ptrL_eq, ptrL, ptrV_bool, ptrV_int, ptrV_string, ptrV_nilFunc, ptrV_nilIface, ptrV_nilPtr, ptrV_nilSl, ptrV_iface, ptrV_agg, ptrV_tuple, ptrV_func, ptrV_ptr, ptrV_sl, dep, ptrFn, List.nil_append, List.cons_append, List.append_nil, reach_nil, reachN, Nat.reduceEqDiff, Nat.reduceAdd, Nat.reduceSub, reduceCtorEq, Nat.reduceLT, Nat.lt_irrefl, List.flatMap_cons, List.flatMap_nil, optAll, renL_eq, renL, renB_flat, renB_non, renV_bool, renV_int, renV_string, renV_nilFunc, renV_nilIface, renV_nilPtr, renV_ptr, renV_nilSl, renV_sl, renV_iface, renV_agg, renV_tuple, renV_func, renFn, idx_nil, idx_cons, idxC_t, idxC_f, Option.map_some, Option.map_none]
theorem f52 (hc : SpC cs off n l) (hk : chkS l n = 0) : callH LL 52 [.slice none 0 0, .int .u32 0, pp 1, pp 2] [.cells cs 2 true own, bxB 0 off n c, clB 1 2] =
    some ⟨sl 4 0 n n, [.cells cs 2 true own, bxB 0 off n c, clB 1 2, .dead, nB (fstR l n)], [1, 0, 2], [3]⟩ := by
  obtain ⟨n1, n2⟩ := chk_ok hk
  have h := c52 off n c (own := own) hc n2 (chk_le hk) n 0 [] cntU_zero (Nat.two_pow_pos n) (by simp; omega)
  rw [if_neg (by omega)] at h
  have hl := fstR_len hk
  have hf : fstR l n = fsL l n n 0 := by unfold fstR; rw [if_pos hk]
  rw [List.nil_append, hl, ← hf] at h
  simp only [nB, List.length_nil, nm_nil] at h ⊢
  generalize nm (fstR l n) = Y at *
  rw [show wv 0 = .int .u32 0 from rfl] at h
  have g : callH LL 52 [sl 3 0 0 0, .int .u32 0, pp 1, pp 2] [.cells cs 2 true own, bxB 0 off n c, clB 1 2, .cells [] 1 true true] =
    some ⟨sl 4 0 n n, [.cells cs 2 true own, bxB 0 off n c, clB 1 2, .dead, .cells Y 1 true true], [3, 1, 0, 2], [3]⟩ :=
    callH_lit (by intro _; first | trivial | rfl) (roots := [3, 1, 2]) rfl (rch15 off n c) rfl rfl h (by simp [mergeB, renV_sl, dep, optAll, renB_flat, renB_dead]) (by simp)
  exact callH_fix (K := ⟨[], [⟨0, 0, 1, true⟩]⟩) (args' := [sl 3 0 0 0, .int .u32 0, pp 1, pp 2]) (h' := [.cells cs 2 true own, bxB 0 off n c, clB 1 2, .cells [] 1 true true]) (by kernel_rfl) rfl rfl (by simp) g
end
section
variable (b off n c : Nat) {cs : List Value} {own : Bool} {l : Nat → Int × Int} {h : List Blk} (hb : h[b]? = some (.cells cs 2 true own)) (hc : SpC cs off n l)
include hb hc
theorem k15 (hn : n ≤ 60) : callH LL 15 [sl b off n c] h = some ⟨.tuple #[sl h.length 0 (fstR l n).length (fstR l n).length, iv (chkS l n)], h ++ [nB (fstR l n)], [b], []⟩ := by
  refine callN_1 rfl hb noIdB_flat (args' := [sl 0 off n c]) (by simp [renV, dep, optAll, idx, nbeq]) (v := .tuple #[sl 1 0 (fstR l n).length (fstR l n).length, iv (chkS l n)]) (news := [nB (fstR l n)]) (go (by decide) ?_) (by intro blk hb; simp only [List.mem_singleton] at hb; subst hb; exact noIdB_flat) (by simp [renV, dep, optAll])
  have a := fun bx => k45 0 off n c (h := .cells cs 2 true own :: bx) rfl hc hn
  rw [run15 _ _ _ (by simp)]
  by_cases h1 : chkS l n = 0
  · obtain ⟨n1, n2⟩ := chk_ok h1
    have hf := f52 off n c (own := own) hc h1
    have hl : (fstR l n).length = n := by unfold fstR; rw [if_pos h1]; exact fstR_len h1
    rw [h1] at a
    rw [hl, h1]
    simp only [nB] at hf ⊢
    generalize nm (fstR l n) = Y at *
    simp (maxSteps := 1000000) (disch := first | omega | decide | assumption | simp [scal]) [loadA_eq ia_22, za_75, sz_75, loadA_eq ia_75, a, hf, callV_fc]
  · have hf : fstR l n = [] := by unfold fstR; rw [if_neg h1]
    rw [hf]
    simp only [nB, nm_nil, List.length_nil]
    simp (maxSteps := 1000000) (disch := first | omega | decide | assumption | simp [scal]) [loadA_eq ia_22, za_75, sz_75, loadA_eq ia_75, a, h1]
end
end Go.Proofs.Ytfccmddkblbeoaa.rk
namespace Go.Proofs.Ytfccmddkblbeoaa.rk
open Go.GE
set_option linter.unusedVariables false
set_option linter.unusedSimpArgs false
set_option linter.unusedSectionVars false
set_option maxRecDepth 100000
set_option maxHeartbeats 4000000
attribute [local simp] runOps_nil runOps_cons runOpsF_nil runOpsF_cons fstS_some fstF_some opStep_eq want_none oStep_true oStep_false fin_pure fin_read fin_alloc fin_write storeB wrN cellV addWr o_move o_assign o_pick o_alloc o_box o_load o_store o_nilCheck o_bin o_un o_extract o_callV o_callB o_callI callV_f callV_y callV_fc o_makeFunc partsA Instr.fill builtin_len builtin_max2 bin_add bin_sub bin_mul bin_quo bin_rem bin_lss bin_leq bin_gtr bin_geq bin_eql bin_neq un_neg un_not bin_shr bin_shl wrap_u64_id opd opds optAll putO nbeq nblt constOk isC ops sub cl cr co bodyOf thenS_normal thenS_ret thenS_exit thenS_goto afterN_normal afterN_ret afterN_exit afterN_goto condS_true condS_false blockS_normal blockS_ret blockS_exit blockS_goto headS normS normK_eq fixS_nil fixS_cons fix1 fixV emptyB keepO_nil keepO_cons roundC_normal roundC_exit roundC_ret roundC_goto sweep_eq sweepD rnm pickR pickW rootsB ptrT renT ptrFn renFn ptrB_flat ptrB_non renB_flat renB_non plainS_some drawS_some fpsOk disj unord range' dropTo enumT undef wrap_i64_id Value.cells mkCells ptrTo scal cellsAt rdN endS_ret resultsA Option.bind_some tupV finish reachN dep ptrL_eq ptrL renL_eq renL ptrV_bool ptrV_int ptrV_string ptrV_nilFunc ptrV_nilIface ptrV_nilPtr ptrV_ptr ptrV_nilSl ptrV_sl ptrV_iface ptrV_agg ptrV_tuple ptrV_func renV_bool renV_int renV_string renV_nilFunc renV_nilIface renV_nilPtr renV_ptr renV_nilSl renV_sl renV_iface renV_agg renV_tuple renV_func gotoS_goto gotoS_normal gotoS_exit gotoS_ret skip_seq sliceE bnd bndHi intOf optOpd keepT_nil keepT_cons keepC_t keepC_f lk_nil lk_cons lkC_t lkC_f has_nil has_cons hasC_t hasC_f rep_nil rep_cons repC_t repC_f put_eq putC_t putC_f mem_nil mem_cons memC_t memC_f idx_nil idx_cons idxC_t idxC_f reach_nil reachP_cons reachQ_t reachQ_f ptrB_dead renB_dead ins_eq
attribute [local simp] n3_1s n3_4s n3_7s n3_8s n3_6s n3_9s n3_5s n3_3s n3_11s n3_13s n3_15s n3_17s n3_19s n3_21s n3_23s n3_24s n3_22s n3_20s n3_18s n3_16s n3_14s n3_12s n3_10s n3_2s n3_0s Try.f3
theorem fstR_le {l : Nat → Int × Int} {n : Nat} (hn : n ≤ 60) : (fstR l n).length ≤ 60 := by
  unfold fstR
  split
  · rename_i h; rw [fstR_len h]; exact hn
  · simp
theorem rksR_le {l : Nat → Int × Int} {n : Nat} (hn : n ≤ 60) : (rksR l n).length ≤ 60 := by
  unfold rksR
  split
  · rw [rkR_len]; exact hn
  · simp
theorem qstC_le {l : Nat → Int × Int} {n : Nat} {K : Int} (hn : n ≤ 60) : (qstC l n K).length ≤ 60 := by
  unfold qstC
  split
  · exact Nat.le_trans filt_len hn
  · simp
theorem qstD_le {l : Nat → Int × Int} {n : Nat} {K : Int} (hn : n ≤ 60) : (qstD l n K).length ≤ 60 := by
  unfold qstD
  split
  · exact Nat.le_trans filt_len hn
  · simp
section
variable (off n c : Nat) {cs : List Value} {own : Bool} {l : Nat → Int × Int}
theorem c3 (K : Int) (hc : SpC cs off n l) : LL.run 3 [sl 0 off n c, iv K] [.cells cs 2 true own] = some ⟨.bool true, [], []⟩ := by
  refine go (by decide) ?_
  by_cases hn : n ≤ 60
  · have e1 : ¬ (60 : Int) < n := by omega
    have a15 := k15 0 off n c (h := [.cells cs 2 true own]) rfl hc hn
    have a16 := fun b1 => k16 0 off n c (h := [.cells cs 2 true own, b1]) rfl hc hn
    have a17 := fun b1 b2 => k17 0 off n c (h := [.cells cs 2 true own, b1, b2]) rfl hc hn
    have a18 := fun b1 b2 b3 => k18 0 off n c (h := [.cells cs 2 true own, b1, b2, b3]) rfl hc hn
    have a19 := fun b1 b2 b3 b4 => k19 0 off n c K (h := [.cells cs 2 true own, b1, b2, b3, b4]) rfl hc hn
    have a20 := fun b1 b2 b3 b4 b5 b6 => k20 0 off n c K (h := [.cells cs 2 true own, b1, b2, b3, b4, b5, b6]) rfl hc hn
    have u1 := fun b0 b3 b4 b5 b6 b7 b8 => k21 (fstR l n) 1 2 (h := [b0, nB (fstR l n), nB (fstR l n), b3, b4, b5, b6, b7, b8]) rfl rfl (by decide) (fstR_le hn)
    have u2 := fun b0 b1 b2 b5 b6 b7 b8 => k22 (rksR l n) 3 4 (h := [b0, b1, b2, spB (rksR l n), spB (rksR l n), b5, b6, b7, b8]) rfl rfl (by decide) (rksR_le hn)
    have u3 := fun b0 b1 b2 b3 b4 b6 b8 => k21 (qstC l n K) 5 7 (h := [b0, b1, b2, b3, b4, nB (qstC l n K), b6, nB (qstC l n K), b8]) rfl rfl (by decide) (qstC_le hn)
    have u4 := fun b0 b1 b2 b3 b4 b5 b7 => k21 (qstD l n K) 6 8 (h := [b0, b1, b2, b3, b4, b5, nB (qstD l n K), b7, nB (qstD l n K)]) rfl rfl (by decide) (qstD_le hn)
    clear hc
    generalize hF : nB (fstR l n) = F at *
    generalize hR : spB (rksR l n) = R at *
    generalize hC : nB (qstC l n K) = C at *
    generalize hD : nB (qstD l n K) = D at *
    have pF : ptrB F = [] := by rw [← hF]; rfl
    have pR : ptrB R = [] := by rw [← hR]; rfl
    have pC : ptrB C = [] := by rw [← hC]; rfl
    have pD : ptrB D = [] := by rw [← hD]; rfl
    clear hF hR hC hD
    generalize (fstR l n).length = nF at *
    generalize (rksR l n).length = nR at *
    generalize (qstC l n K).length = nC at *
    generalize (qstD l n K).length = nD at *
    generalize chkS l n = ck at *
    generalize qstE l n K = ek at *
    rw [run3 _ _ _ (by simp)]
    simp (maxSteps := 1000000) (disch := first | omega | decide | assumption | simp [scal]) [lenA_sl lk_22, want_some q3_23g3, want_some q3_23g8, want_some q3_23g13, want_some q3_23g18, want_some q3_23g23, want_some q3_23g28, want_some q3_23g33, e1, a15, a16, a17, a18, a19, a20, u1, u2, u3, u4, k14]
  · have e1 : (60 : Int) < n := by omega
    rw [run3 _ _ _ (by simp)]
    simp (maxSteps := 1000000) (disch := first | omega | decide | assumption | simp [scal]) [lenA_sl lk_22, want_some q3_23g3, want_some q3_23g8, want_some q3_23g13, want_some q3_23g18, want_some q3_23g23, want_some q3_23g28, want_some q3_23g33, e1, k14]
end
end Go.Proofs.Ytfccmddkblbeoaa.rk
