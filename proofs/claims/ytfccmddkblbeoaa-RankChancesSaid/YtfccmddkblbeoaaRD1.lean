/-
  Contracts of functions of the program at the limit evaluator. No condition.
-/
import Derived.Test.YtfccmddkblbeoaaRDN
import Derived.Test.YtfccmddkblbeoaaE40
namespace Go.Proofs.Ytfccmddkblbeoaa.rk
open Go.GE
set_option linter.unusedVariables false
set_option linter.unusedSimpArgs false
set_option linter.unusedSectionVars false
set_option maxRecDepth 100000
set_option maxHeartbeats 4000000
attribute [local simp] runOps_nil runOps_cons runOpsF_nil runOpsF_cons fstS_some fstF_some opStep_eq want_none oStep_true oStep_false fin_pure fin_read fin_alloc fin_write storeB wrN cellV addWr o_move o_assign o_pick o_alloc o_box o_load o_store o_nilCheck o_bin o_un o_extract o_callV o_callB o_callI callV_f callV_y callV_fc o_makeFunc partsA Instr.fill builtin_len builtin_max2 bin_add bin_sub bin_mul bin_quo bin_rem bin_lss bin_leq bin_gtr bin_geq bin_eql bin_neq un_neg un_not bin_shr bin_shl wrap_u64_id opd opds optAll putO nbeq nblt constOk isC ops sub cl cr co bodyOf thenS_normal thenS_ret thenS_exit thenS_goto afterN_normal afterN_ret afterN_exit afterN_goto condS_true condS_false blockS_normal blockS_ret blockS_exit blockS_goto headS normS normK_eq fixS_nil fixS_cons fix1 fixV emptyB keepO_nil keepO_cons roundC_normal roundC_exit roundC_ret roundC_goto sweep_eq sweepD rnm pickR pickW rootsB ptrT renT ptrFn renFn ptrB_flat ptrB_non renB_flat renB_non plainS_some drawS_some fpsOk disj unord range' dropTo enumT undef wrap_i64_id Value.cells mkCells ptrTo scal cellsAt rdN endS_ret resultsA Option.bind_some tupV finish reachN dep ptrL_eq ptrL renL_eq renL ptrV_bool ptrV_int ptrV_string ptrV_nilFunc ptrV_nilIface ptrV_nilPtr ptrV_ptr ptrV_nilSl ptrV_sl ptrV_iface ptrV_agg ptrV_tuple ptrV_func renV_bool renV_int renV_string renV_nilFunc renV_nilIface renV_nilPtr renV_ptr renV_nilSl renV_sl renV_iface renV_agg renV_tuple renV_func gotoS_goto gotoS_normal gotoS_exit gotoS_ret skip_seq sliceE bnd bndHi intOf optOpd keepT_nil keepT_cons keepC_t keepC_f lk_nil lk_cons lkC_t lkC_f has_nil has_cons hasC_t hasC_f rep_nil rep_cons repC_t repC_f put_eq putC_t putC_f mem_nil mem_cons memC_t memC_f idx_nil idx_cons idxC_t idxC_f reach_nil reachP_cons reachQ_t reachQ_f ptrB_dead renB_dead ins_eq
attribute [local simp] n57_1s n57_3s n57_4s n57_2s n57_0s Try.f57 n58_1s n58_3s n58_4s n58_2s n58_0s Try.f58 n75_1s n75_3s n75_4s n75_2s n75_0s Try.f75 n82_1s n82_4s n82_8s n82_11s n82_12s n82_10s n82_16s n82_18s n82_21s n82_22s n82_20s n82_23s n82_19s n82_17s n82_15s n82_14s n82_24s n82_13s n82_9s n82_7s n82_6s n82_6g n82_5s n82_3s n82_26s n82_27s n82_25s n82_2s n82_0s Try.f82
theorem other {f : FuncId} (hf : (14 : Nat) ≠ f) (a : List Value) (h : List Blk) : (wk.wtab.keep kpT).run f a h = none := by
  show GE.tabR [wk.ew] f a h = none
  have : Nat.beq wk.ew.f f = false := GE.beq_false.2 hf
  simp only [tabR, this, Bool.false_and, cond_false]
theorem go {f : FuncId} {args : List Value} {h : List Blk} {r : RR} (hf : (14 : Nat) ≠ f) (he : runB Try.prog LL f args h = some r) : LL.run f args h = some r := L_run (other hf _ _) he
theorem k14 (h : List Blk) : callH LL 14 [] h = some ⟨.bool true, h, [], []⟩ := callH_plain (L_tab rfl) rfl rfl
abbrev sl (b off n c : Nat) : Value := .slice (some ⟨b, off, none⟩) n c
abbrev pp (b : Nat) : Value := .pointer (some ⟨b, 0, none⟩)
/-- cells of spans -/
def SpC (cs : List Value) (off n : Nat) (l : Nat → Int × Int) : Prop := ∀ i, i < n → cs[off + i * 2]? = some (iv (l i).1) ∧ cs[off + i * 2 + 1]? = some (iv (l i).2)
theorem k57 (a b c : Int) (h : List Blk) : callH LL 57 [iv a, iv b, iv c] h = some ⟨.bool (decide (a ≤ b) && decide (b ≤ c)), h, [], []⟩ := by
  refine callH_plain (go (by decide) ?_) rfl rfl
  rw [run57 _ _ _ (by simp)]
  by_cases h1 : a ≤ b <;> by_cases h2 : b ≤ c <;>
  simp (maxSteps := 1000000) (disch := first | omega | decide | assumption | simp [scal]) [want_some q57_3g3, h1, h2]
theorem k58 (a b c : Int) (h : List Blk) : callH LL 58 [iv a, iv b, iv c] h = some ⟨.bool (decide (b ≤ a) && decide (a ≤ c)), h, [], []⟩ := by
  refine callH_plain (go (by decide) ?_) rfl rfl
  rw [run58 _ _ _ (by simp)]
  by_cases h1 : b ≤ a <;> by_cases h2 : a ≤ c <;>
  simp (maxSteps := 1000000) (disch := first | omega | decide | assumption | simp [scal]) [want_some q58_3g3, h1, h2]
/-- a month's day that is not valid -/
def bad (s : Int × Int) : Bool := !(decide (0 ≤ s.1) && decide (s.1 ≤ s.2)) || decide (100000 < s.2)
theorem k75 (x y : Int) (h : List Blk) : callH LL 75 [.agg #[iv x, iv y]] h = some ⟨.bool (bad (x, y)), h, [], []⟩ := by
  refine callH_none rfl (fun _ => rfl) (go (by decide) ?_) fun _ => rfl
  rw [run75 _ _ _ (by simp)]
  cases h1 : (decide (0 ≤ x) && decide (x ≤ y))
  · simp (maxSteps := 1000000) (disch := first | omega | decide | assumption | simp [scal]) [o_fieldAddr fa_55_0 (by decide), loadA_eq ia_3, o_fieldAddr fa_55_1 (by decide), want_some q75_3g6, h1, k57, bad]
  · by_cases h2 : (100000 : Int) < y
    · simp (maxSteps := 1000000) (disch := first | omega | decide | assumption | simp [scal]) [o_fieldAddr fa_55_0 (by decide), loadA_eq ia_3, o_fieldAddr fa_55_1 (by decide), want_some q75_3g6, h1, h2, k57, bad]
    · simp (maxSteps := 1000000) (disch := first | omega | decide | assumption | simp [scal]) [o_fieldAddr fa_55_0 (by decide), loadA_eq ia_3, o_fieldAddr fa_55_1 (by decide), want_some q75_3g6, h1, h2, k57, bad]
def idxL (l : Nat → Int × Int) : Nat → Nat → Int
  | 0, _ => -1
  | k + 1, i => if bad (l i) = true then i else idxL l k (i + 1)
def anyB (l : Nat → Int × Int) : Nat → Nat → Bool
  | 0, _ => false
  | k + 1, i => bad (l i) || anyB l k (i + 1)
theorem idx_any {l : Nat → Int × Int} : ∀ k i, decide (0 ≤ idxL l k i) = anyB l k i := by
  intro k
  induction k with
  | zero => intro i; rfl
  | succ k ih =>
    intro i
    unfold idxL anyB
    cases h : bad (l i)
    · simp [ih]
    · simp
theorem any_iff {l : Nat → Int × Int} {n : Nat} : anyB l n 0 = false ↔ ∀ i, i < n → bad (l i) = false := by
  have key : ∀ k i, anyB l k i = false ↔ ∀ j, i ≤ j → j < i + k → bad (l j) = false := by
    intro k
    induction k with
    | zero => intro i; simp only [anyB, true_iff]; intro j h1 h2; omega
    | succ k ih =>
      intro i
      simp only [anyB, Bool.or_eq_false_iff, ih]
      constructor
      · rintro ⟨h1, h2⟩ j h3 h4
        by_cases hj : j = i
        · subst hj; exact h1
        · exact h2 j (by omega) (by omega)
      · intro h
        exact ⟨h i (by omega) (by omega), fun j h1 h2 => h j (by omega) (by omega)⟩
  rw [key]
  constructor
  · intro h i hi; exact h i (by omega) (by omega)
  · intro h j _ hj; exact h j (by omega)
section
variable (off n c : Nat) (cs : List Value) (own : Bool) (l : Nat → Int × Int)
theorem l82 (hc : SpC cs off n l) (hn : n ≤ 60) : ∀ k i : Nat, i + k = n →
    lpB Try.prog LL ⟨82, 19, 1, none⟩ n82_6 n82_7 ⟨[(0, sl 0 off n c), (1, .func (.func 75) #[] #[]), (7, iv n), (8, iv i)], [.cells cs 2 true own], []⟩ =
      if idxL l k i = -1 then some (.exit 0, ⟨[], [.cells cs 2 true own], []⟩) else some (.ret, ⟨[(4, iv (idxL l k i))], [.cells cs 2 true own], []⟩) := by
  intro k
  induction k with
  | zero =>
    intro i hi
    obtain rfl : i = n := by omega
    rw [lpB_eq]
    simp (maxSteps := 1000000) (disch := first | omega | decide | assumption | simp [scal]) [lenA_sl lk_22, o_indexAddrS es_22, loadA_eq ia_55, idxL]
  | succ k ih =>
    intro i hi
    have e1 : i < n := by omega
    have this := ih (i + 1) (by omega)
    obtain ⟨e2, e3⟩ := hc i e1
    obtain ⟨x, y, hxy⟩ : ∃ x y, l i = (x, y) := ⟨_, _, rfl⟩
    rw [hxy] at e2 e3
    unfold idxL
    rw [hxy]
    rw [lpB_eq]
    simp only [cast1] at this
    cases h1 : bad (x, y)
    · simp (maxSteps := 1000000) (disch := first | omega | decide | assumption | simp [scal]) [lenA_sl lk_22, o_indexAddrS es_22, loadA_eq ia_55, e1, e2, e3, k75, h1, this]
    · have : ¬ ((i : Int) = -1) := by omega
      simp (maxSteps := 1000000) (disch := first | omega | decide | assumption | simp [scal]) [lenA_sl lk_22, o_indexAddrS es_22, loadA_eq ia_55, e1, e2, e3, k75, h1, this]
end
end Go.Proofs.Ytfccmddkblbeoaa.rk
namespace Go.Proofs.Ytfccmddkblbeoaa.rk
open Go.GE
set_option linter.unusedVariables false
set_option linter.unusedSimpArgs false
set_option linter.unusedSectionVars false
set_option maxRecDepth 100000
set_option maxHeartbeats 4000000
attribute [local simp] runOps_nil runOps_cons runOpsF_nil runOpsF_cons fstS_some fstF_some opStep_eq want_none oStep_true oStep_false fin_pure fin_read fin_alloc fin_write storeB wrN cellV addWr o_move o_assign o_pick o_alloc o_box o_load o_store o_nilCheck o_bin o_un o_extract o_callV o_callB o_callI callV_f callV_y callV_fc o_makeFunc partsA Instr.fill builtin_len builtin_max2 bin_add bin_sub bin_mul bin_quo bin_rem bin_lss bin_leq bin_gtr bin_geq bin_eql bin_neq un_neg un_not bin_shr bin_shl wrap_u64_id opd opds optAll putO nbeq nblt constOk isC ops sub cl cr co bodyOf thenS_normal thenS_ret thenS_exit thenS_goto afterN_normal afterN_ret afterN_exit afterN_goto condS_true condS_false blockS_normal blockS_ret blockS_exit blockS_goto headS normS normK_eq fixS_nil fixS_cons fix1 fixV emptyB keepO_nil keepO_cons roundC_normal roundC_exit roundC_ret roundC_goto sweep_eq sweepD rnm pickR pickW rootsB ptrT renT ptrFn renFn ptrB_flat ptrB_non renB_flat renB_non plainS_some drawS_some fpsOk disj unord range' dropTo enumT undef wrap_i64_id Value.cells mkCells ptrTo scal cellsAt rdN endS_ret resultsA Option.bind_some tupV finish reachN dep ptrL_eq ptrL renL_eq renL ptrV_bool ptrV_int ptrV_string ptrV_nilFunc ptrV_nilIface ptrV_nilPtr ptrV_ptr ptrV_nilSl ptrV_sl ptrV_iface ptrV_agg ptrV_tuple ptrV_func renV_bool renV_int renV_string renV_nilFunc renV_nilIface renV_nilPtr renV_ptr renV_nilSl renV_sl renV_iface renV_agg renV_tuple renV_func gotoS_goto gotoS_normal gotoS_exit gotoS_ret skip_seq sliceE bnd bndHi intOf optOpd keepT_nil keepT_cons keepC_t keepC_f lk_nil lk_cons lkC_t lkC_f has_nil has_cons hasC_t hasC_f rep_nil rep_cons repC_t repC_f put_eq putC_t putC_f mem_nil mem_cons memC_t memC_f idx_nil idx_cons idxC_t idxC_f reach_nil reachP_cons reachQ_t reachQ_f ptrB_dead renB_dead ins_eq
attribute [local simp] n82_1s n82_4s n82_8s n82_11s n82_12s n82_10s n82_16s n82_18s n82_21s n82_22s n82_20s n82_23s n82_19s n82_17s n82_15s n82_14s n82_24s n82_13s n82_9s n82_7s n82_6s n82_6g n82_5s n82_3s n82_26s n82_27s n82_25s n82_2s n82_0s Try.f82 n74_1s n74_3s n74_4s n74_2s n74_0s Try.f74 n45_1s n45_5s n45_8s n45_9s n45_7s n45_11s n45_14s n45_15s n45_13s n45_17s n45_20s n45_21s n45_19s n45_22s n45_18s n45_16s n45_12s n45_10s n45_6s n45_4s n45_3s n45_24s n45_25s n45_23s n45_2s n45_0s Try.f45 n77_1s n77_3s n77_4s n77_2s n77_0s Try.f77 n55_1s n55_3s n55_4s n55_2s n55_0s Try.f55 n50_1s n50_4s n50_7s n50_8s n50_6s n50_9s n50_5s n50_3s n50_12s n50_15s n50_16s n50_14s n50_17s n50_13s n50_11s n50_20s n50_25s n50_27s n50_28s n50_26s n50_24s n50_32s n50_35s n50_36s n50_34s n50_37s n50_33s n50_31s n50_30s n50_38s n50_29s n50_23s n50_22s n50_22g n50_21s n50_19s n50_40s n50_41s n50_39s n50_18s n50_10s n50_2s n50_0s Try.f50
/-- a month's check -/
def chkS (l : Nat → Int × Int) (n : Nat) : Int := if n = 0 then 2 else if 30 < n then 3 else if anyB l n 0 = true then 1 else 0
def quiet (l : Nat → Int × Int) (i k : Nat) : Bool := decide ((l i).2 < (l k).1)
section
variable (b off n c : Nat) {cs : List Value} {own : Bool} {l : Nat → Int × Int} {h : List Blk} (hb : h[b]? = some (.cells cs 2 true own)) (hc : SpC cs off n l)
include hb hc
theorem k82 (hn : n ≤ 60) : callH LL 82 [sl b off n c, .func (.func 75) #[] #[]] h = some ⟨iv (idxL l n 0), h, [b], []⟩ := by
  refine callH_1 rfl hb noIdB_flat (args' := [sl 0 off n c, .func (.func 75) #[] #[]]) (by simp [renV, dep, optAll, idx, nbeq]) (go (by decide) ?_) fun _ => rfl
  rw [run82 _ _ _ (by simp)]
  have this := l82 off n c cs own l hc hn n 0 (by omega)
  by_cases h1 : idxL l n 0 = -1
  · rw [if_pos h1] at this
    simp only [Int.natCast_zero] at this
    rw [h1]
    simp (maxSteps := 1000000) (disch := first | omega | decide | assumption | simp [scal]) [lenA_sl lk_22, o_indexAddrS es_22, loadA_eq ia_55, this]
  · rw [if_neg h1] at this
    simp only [Int.natCast_zero] at this
    simp (maxSteps := 1000000) (disch := first | omega | decide | assumption | simp [scal]) [lenA_sl lk_22, o_indexAddrS es_22, loadA_eq ia_55, this]
theorem k74 (hn : n ≤ 60) : callH LL 74 [sl b off n c, .func (.func 75) #[] #[]] h = some ⟨.bool (anyB l n 0), h, [b], []⟩ := by
  refine callH_1 rfl hb noIdB_flat (args' := [sl 0 off n c, .func (.func 75) #[] #[]]) (by simp [renV, dep, optAll, idx, nbeq]) (go (by decide) ?_) fun _ => rfl
  rw [run74 _ _ _ (by simp)]
  have a := k82 0 off n c (h := [.cells cs 2 true own]) rfl hc hn
  have e := idx_any (l := l) n 0
  generalize idxL l n 0 = x at *
  rw [← e]
  by_cases h1 : 0 ≤ x <;>
  simp (maxSteps := 1000000) (disch := first | omega | decide | assumption | simp [scal]) [a, h1]
theorem k45 (hn : n ≤ 60) : callH LL 45 [sl b off n c] h = some ⟨iv (chkS l n), h, [b], []⟩ := by
  refine callH_1 rfl hb noIdB_flat (args' := [sl 0 off n c]) (by simp [renV, dep, optAll, idx, nbeq]) (go (by decide) ?_) fun _ => rfl
  rw [run45 _ _ _ (by simp)]
  unfold chkS
  by_cases h1 : n = 0
  · subst h1
    simp (maxSteps := 1000000) (disch := first | omega | decide | assumption | simp [scal]) [lenA_sl lk_22]
  have h1' : ¬ ((n : Int) = 0) := by omega
  by_cases h2 : 30 < n
  · have h2' : (30 : Int) < n := by omega
    simp (maxSteps := 1000000) (disch := first | omega | decide | assumption | simp [scal]) [lenA_sl lk_22, h1, h1', h2, h2']
  have h2' : ¬ (30 : Int) < n := by omega
  have a := k74 0 off n c (h := [.cells cs 2 true own]) rfl hc hn
  cases h3 : anyB l n 0 <;> rw [h3] at a
  · simp (maxSteps := 1000000) (disch := first | omega | decide | assumption | simp [scal]) [lenA_sl lk_22, h1, h1', h2, h2', a]
  · simp (maxSteps := 1000000) (disch := first | omega | decide | assumption | simp [scal]) [lenA_sl lk_22, h1, h1', h2, h2', a]
theorem k77 (i k : Nat) (hi : i < n) (hk : k < n) : callH LL 77 [sl b off n c, iv i, iv k] h = some ⟨.bool (quiet l i k), h, [b], []⟩ := by
  refine callH_1 rfl hb noIdB_flat (args' := [sl 0 off n c, iv i, iv k]) (by simp [renV, dep, optAll, idx, nbeq]) (go (by decide) ?_) fun _ => rfl
  rw [run77 _ _ _ (by simp)]
  obtain ⟨e1, e2⟩ := hc i hi
  obtain ⟨e3, e4⟩ := hc k hk
  by_cases h1 : (l i).2 < (l k).1 <;>
  simp (maxSteps := 1000000) (disch := first | omega | decide | assumption | simp [scal]) [o_indexAddrS es_78, o_fieldAddr fa_55_1 (by decide), loadA_eq ia_3, o_fieldAddr fa_55_0 (by decide), hi, hk, e1, e2, e3, e4, quiet, h1]
theorem k55 (i k : Nat) (hi : i < n) (hk : k < n) : callH LL 55 [sl b off n c, iv i, iv k] h = some ⟨.bool (quiet l i k), h, [b], []⟩ := by
  refine callH_1 rfl hb noIdB_flat (args' := [sl 0 off n c, iv i, iv k]) (by simp [renV, dep, optAll, idx, nbeq]) (go (by decide) ?_) fun _ => rfl
  rw [run55 _ _ _ (by simp)]
  obtain ⟨e1, e2⟩ := hc i hi
  obtain ⟨e3, e4⟩ := hc k hk
  by_cases h1 : (l i).2 < (l k).1 <;>
  simp (maxSteps := 1000000) (disch := first | omega | decide | assumption | simp [scal]) [o_indexAddrS es_22, o_fieldAddr fa_55_1 (by decide), loadA_eq ia_3, o_fieldAddr fa_55_0 (by decide), hi, hk, e1, e2, e3, e4, quiet, h1]
end
section
variable (off n c : Nat) (cs : List Value) (own : Bool) (l : Nat → Int × Int)
theorem l50 (hc : SpC cs off n l) (hn : n ≤ 60) : ∀ k i : Nat, i + k = n →
    lpB Try.prog LL ⟨50, 36, 1, none⟩ n50_22 n50_23 ⟨[(0, sl 0 off n c), (3, iv i)], [.cells cs 2 true own], []⟩ =
      if anyB l k i = false then some (.exit 0, ⟨[], [.cells cs 2 true own], []⟩) else some (.ret, ⟨[(2, iv 1)], [.cells cs 2 true own], []⟩) := by
  intro k
  induction k with
  | zero =>
    intro i hi
    obtain rfl : i = n := by omega
    rw [lpB_eq]
    simp (maxSteps := 1000000) (disch := first | omega | decide | assumption | simp [scal]) [lenA_sl lk_22, o_indexAddrS es_22, o_fieldAddr fa_55_0 (by decide), loadA_eq ia_3, o_fieldAddr fa_55_1 (by decide), want_some q50_32g12, anyB]
  | succ k ih =>
    intro i hi
    have e1 : i < n := by omega
    have e1' : (i : Int) < n := by omega
    have this := ih (i + 1) (by omega)
    obtain ⟨e2, e3⟩ := hc i e1
    obtain ⟨x, y, hxy⟩ : ∃ x y, l i = (x, y) := ⟨_, _, rfl⟩
    rw [hxy] at e2 e3
    unfold anyB
    rw [hxy]
    simp only [cast1] at this
    rw [lpB_eq]
    cases h1 : (decide (0 ≤ x) && decide (x ≤ y))
    · simp (maxSteps := 1000000) (disch := first | omega | decide | assumption | simp [scal]) [lenA_sl lk_22, o_indexAddrS es_22, o_fieldAddr fa_55_0 (by decide), loadA_eq ia_3, o_fieldAddr fa_55_1 (by decide), want_some q50_32g12, e1, e1', e2, e3, k58, h1, bad]
    · by_cases h2 : (100000 : Int) < y
      · simp (maxSteps := 1000000) (disch := first | omega | decide | assumption | simp [scal]) [lenA_sl lk_22, o_indexAddrS es_22, o_fieldAddr fa_55_0 (by decide), loadA_eq ia_3, o_fieldAddr fa_55_1 (by decide), want_some q50_32g12, e1, e1', e2, e3, k58, h1, h2, bad]
      · simp (maxSteps := 1000000) (disch := first | omega | decide | assumption | simp [scal]) [lenA_sl lk_22, o_indexAddrS es_22, o_fieldAddr fa_55_0 (by decide), loadA_eq ia_3, o_fieldAddr fa_55_1 (by decide), want_some q50_32g12, e1, e1', e2, e3, k58, h1, h2, bad, this]
end
section
variable (b off n c : Nat) {cs : List Value} {own : Bool} {l : Nat → Int × Int} {h : List Blk} (hb : h[b]? = some (.cells cs 2 true own)) (hc : SpC cs off n l)
include hb hc
theorem k50 (hn : n ≤ 60) : callH LL 50 [sl b off n c] h = some ⟨iv (chkS l n), h, [b], []⟩ := by
  refine callH_1 rfl hb noIdB_flat (args' := [sl 0 off n c]) (by simp [renV, dep, optAll, idx, nbeq]) (go (by decide) ?_) fun _ => rfl
  rw [run50 _ _ _ (by simp)]
  unfold chkS
  by_cases h1 : n = 0
  · subst h1
    simp (maxSteps := 1000000) (disch := first | omega | decide | assumption | simp [scal]) [lenA_sl lk_22, o_indexAddrS es_22, o_fieldAddr fa_55_0 (by decide), loadA_eq ia_3, o_fieldAddr fa_55_1 (by decide), want_some q50_32g12]
  have h1' : ¬ ((n : Int) = 0) := by omega
  by_cases h2 : 30 < n
  · have h2' : (30 : Int) < n := by omega
    simp (maxSteps := 1000000) (disch := first | omega | decide | assumption | simp [scal]) [lenA_sl lk_22, o_indexAddrS es_22, o_fieldAddr fa_55_0 (by decide), loadA_eq ia_3, o_fieldAddr fa_55_1 (by decide), want_some q50_32g12, h1, h1', h2, h2']
  have h2' : ¬ (30 : Int) < n := by omega
  have this := l50 off n c cs own l hc hn n 0 (by omega)
  simp only [Int.natCast_zero] at this
  cases h3 : anyB l n 0 <;> rw [h3] at this
  · simp (maxSteps := 1000000) (disch := first | omega | decide | assumption | simp [scal]) [lenA_sl lk_22, o_indexAddrS es_22, o_fieldAddr fa_55_0 (by decide), loadA_eq ia_3, o_fieldAddr fa_55_1 (by decide), want_some q50_32g12, h1, h1', h2, h2', this]
  · simp (maxSteps := 1000000) (disch := first | omega | decide | assumption | simp [scal]) [lenA_sl lk_22, o_indexAddrS es_22, o_fieldAddr fa_55_0 (by decide), loadA_eq ia_3, o_fieldAddr fa_55_1 (by decide), want_some q50_32g12, h1, h1', h2, h2', this]
end
end Go.Proofs.Ytfccmddkblbeoaa.rk
namespace Go.Proofs.Ytfccmddkblbeoaa.rk
open Go.GE
set_option linter.unusedVariables false
set_option linter.unusedSimpArgs false
set_option linter.unusedSectionVars false
set_option maxRecDepth 100000
set_option maxHeartbeats 4000000
abbrev wv (n : Nat) : Value := .int .u32 (n : Int)
theorem wrap_u32 {n : Nat} (h : n < 2 ^ 32) : IntKind.u32.wrap (n : Int) = n := by simp [IntKind.wrap, IntKind.bits, IntKind.signed]; omega
theorem bin_and1w {P : Program} {t : TypeId} {c : Bool} {w : Nat} (h : w < 2 ^ 32) : binA P .and t c (.int .u32 (w : Int)) (.int .u32 1) = some (.int .u32 ((w % 2 : Nat) : Int)) := by
  have e : (BitVec.ofInt 32 (w : Int) &&& BitVec.ofInt 32 1).toNat = w % 2 := by
    rw [BitVec.ofInt_natCast]
    rw [show BitVec.ofInt 32 1 = BitVec.ofNat 32 1 from rfl, BitVec.toNat_and, BitVec.toNat_ofNat, BitVec.toNat_ofNat, Nat.mod_eq_of_lt h, Nat.mod_eq_of_lt (by decide : 1 < 2 ^ 32), Nat.and_one_is_mod]
  have e' : IntKind.u32.wrap ((BitVec.ofInt 32 (w : Int) &&& BitVec.ofInt 32 1).toNat : Int) = ((w % 2 : Nat) : Int) := by rw [e]; exact wrap_u32 (by omega)
  show some (Value.int .u32 (IntKind.u32.wrap ((BitVec.ofInt 32 (w : Int) &&& BitVec.ofInt 32 1).toNat : Int))) = _
  rw [e']
theorem bin_orw {P : Program} {t : TypeId} {c : Bool} {w v : Nat} (h : w < 2 ^ 32) (h' : v < 2 ^ 32) : binA P .or t c (.int .u32 (w : Int)) (.int .u32 (v : Int)) = some (.int .u32 ((w ||| v : Nat) : Int)) := by
  have hl : w ||| v < 2 ^ 32 := Nat.or_lt_two_pow h h'
  have e : (BitVec.ofInt 32 (w : Int) ||| BitVec.ofInt 32 (v : Int)).toNat = w ||| v := by
    rw [BitVec.ofInt_natCast, BitVec.ofInt_natCast, BitVec.toNat_or, BitVec.toNat_ofNat, BitVec.toNat_ofNat, Nat.mod_eq_of_lt h, Nat.mod_eq_of_lt h']
  have e' : IntKind.u32.wrap ((BitVec.ofInt 32 (w : Int) ||| BitVec.ofInt 32 (v : Int)).toNat : Int) = ((w ||| v : Nat) : Int) := by rw [e]; exact wrap_u32 hl
  show some (Value.int .u32 (IntKind.u32.wrap ((BitVec.ofInt 32 (w : Int) ||| BitVec.ofInt 32 (v : Int)).toNat : Int))) = _
  rw [e']
theorem fdiv_poww {w i : Nat} (hi : i < 32) : ((w : Int).fdiv (2 ^ min i IntKind.u32.bits)) = ((w / 2 ^ i : Nat) : Int) := by
  rw [show min i IntKind.u32.bits = i from Nat.min_eq_left (Nat.le_of_lt hi), Int.fdiv_eq_ediv_of_nonneg _ (by exact_mod_cast Nat.zero_le _)]
  simp
theorem shl_poww {J : Nat} (hJ : J < 32) : IntKind.u32.wrap (2 ^ min J IntKind.u32.bits) = ((2 ^ J : Nat) : Int) := by
  rw [show min J IntKind.u32.bits = J from Nat.min_eq_left (Nat.le_of_lt hJ), show ((2 : Int) ^ J) = ((2 ^ J : Nat) : Int) by simp]
  exact wrap_u32 (Nat.pow_lt_pow_right (by decide) hJ)
end Go.Proofs.Ytfccmddkblbeoaa.rk
namespace Go.Proofs.Ytfccmddkblbeoaa.rk
open Go.GE
set_option linter.unusedVariables false
set_option linter.unusedSimpArgs false
set_option linter.unusedSectionVars false
set_option maxRecDepth 100000
set_option maxHeartbeats 4000000
section
open Go.ChangeShapes Go.WideShapes Go.RowKit
variable {H : Type} {enc : TypeId × Value → H} {W : World} {base b0 : Nat} {v : Value} {d : DataW H} {p : List MemPlace}
def spOf (zs : List (List Int)) (i : Nat) : Int × Int := ((zs.getD i []).getD 0 0, (zs.getD i []).getD 1 0)
abbrev spG (p : Int × Int) : List Value := [iv p.1, iv p.2]
theorem sp_flat {zs : List (List Int)} (h : ∀ z ∈ zs, wfs [.i64, .i64] z) : SpC (zs.flatMap (ints [.i64, .i64])) 0 zs.length (spOf zs) := by
  have e : zs.flatMap (ints [.i64, .i64]) = zs.flatMap fun z => spG (z.getD 0 0, z.getD 1 0) := by
    induction zs with
    | nil => rfl
    | cons z zs ih =>
      have h1 := (h z (by simp)).1
      match z, h1 with
      | [a, b], _ => rw [List.flatMap_cons, List.flatMap_cons, ih fun z hz => h z (by simp [hz])]; rfl
  rw [e]
  intro i hi
  have hz : zs[i]? = some (zs.getD i []) := by simp [hi]
  refine ⟨?_, ?_⟩
  · have := flat_get (g := fun z : List Int => spG (z.getD 0 0, z.getD 1 0)) (k := 2) (fun _ => rfl) hz (j := 0) (by omega); simpa [spG, spOf] using this
  · have := flat_get (g := fun z : List Int => spG (z.getD 0 0, z.getD 1 0)) (k := 2) (fun _ => rfl) hz (j := 1) (by omega); simpa [spG, spOf] using this
/-- a month as it is handed over -/
theorem open_spans (hv : Value.okWide Try.prog W .any b0 22 v) (hd : DataW.Trod enc Try.prog W base (fun _ => true) true 22 v d p) :
    ∃ (zs : List (List Int)) (mb : Option MB), WinO W mb (.cells (zs.flatMap (ints [.i64, .i64])) 2 true false) ∧ (∀ (m : Mp) b, m b = mb → VR m (sl b 0 zs.length zs.length) v) ∧ SpC (zs.flatMap (ints [.i64, .i64])) 0 zs.length (spOf zs) := by
  obtain ⟨zs, mb, hw, hvr, hz, _⟩ := open_param_flat (ks := [.i64, .i64]) (d := 4) Try.underlying22 (by kernel_rfl) (by kernel_rfl) (by decide) hv hd
  exact ⟨zs, mb, hw, hvr, sp_flat hz⟩
theorem open_i (hv : Value.okWide Try.prog W .any b0 3 v) (hd : DataW.Trod enc Try.prog W base (fun _ => true) true 3 v d p) : ∃ x : Int, v = iv x := by
  obtain ⟨y, rfl, _, _, h⟩ := open_int (show Try.prog.underlying 3 = some (.int .i64) from by kernel_rfl) hv hd
  exact ⟨y, rfl⟩
end
end Go.Proofs.Ytfccmddkblbeoaa.rk
namespace Go.GE
end Go.GE
namespace Go.Proofs.Ytfccmddkblbeoaa.rk
open Go.GE
set_option linter.unusedVariables false
set_option linter.unusedSimpArgs false
set_option linter.unusedSectionVars false
set_option maxRecDepth 100000
set_option maxHeartbeats 4000000
def spAt (A : List (Int × Int)) (i : Nat) : Int × Int := A.getD i (0, 0)
end Go.Proofs.Ytfccmddkblbeoaa.rk
namespace Go.Proofs.Ytfccmddkblbeoaa.rk
open Go.GE
set_option linter.unusedVariables false
set_option linter.unusedSimpArgs false
set_option linter.unusedSectionVars false
set_option maxRecDepth 100000
set_option maxHeartbeats 4000000
/-- spans that make a month -/
def OkM (A : List (Int × Int)) : Prop := 1 ≤ A.length ∧ A.length ≤ 30 ∧ ∀ a ∈ A, 0 ≤ a.1 ∧ a.1 ≤ a.2 ∧ a.2 ≤ 100000
theorem OkM.at {A : List (Int × Int)} (H : OkM A) {i : Nat} (hi : i < A.length) : 0 ≤ (spAt A i).1 ∧ (spAt A i).1 ≤ (spAt A i).2 ∧ (spAt A i).2 ≤ 100000 := by
  have e : spAt A i = A[i] := by simp [spAt, hi]
  rw [e]
  exact H.2.2 _ (List.getElem_mem hi)
end Go.Proofs.Ytfccmddkblbeoaa.rk
namespace Go.Proofs.Ytfccmddkblbeoaa.rk
open Go.GE
set_option linter.unusedVariables false
set_option linter.unusedSimpArgs false
set_option linter.unusedSectionVars false
set_option maxRecDepth 100000
set_option maxHeartbeats 4000000
theorem chk_ok {l : Nat → Int × Int} {n : Nat} (h : chkS l n = 0) : 0 < n ∧ n ≤ 30 := by
  unfold chkS at h
  by_cases h0 : n = 0
  · rw [if_pos h0] at h; omega
  · rw [if_neg h0] at h
    by_cases h2 : 30 < n
    · rw [if_pos h2] at h; omega
    · omega
end Go.Proofs.Ytfccmddkblbeoaa.rk
namespace Go.Proofs.Ytfccmddkblbeoaa.rk
open Go.GE
set_option linter.unusedVariables false
set_option linter.unusedSimpArgs false
set_option linter.unusedSectionVars false
set_option maxRecDepth 100000
set_option maxHeartbeats 4000000
theorem mk24 {σ : Tm} {h : List Blk} {d : Option Nat} {ty : TypeId} {pos : String} {af : Array Edge} {g : Option (Nat × Bool)} {x y : Operand} : aop Try.prog LL σ h ⟨d, .makeSlice 24 x y, ty, pos, af, g⟩ = (match opd σ x, opd σ y with
    | some (.int _ n), some (.int _ k) => if 0 ≤ n ∧ n ≤ k ∧ k * 8 ≤ 70368744177664 ∧ k ≤ 70368744177664 then allocR h (.cells (List.replicate k.toNat (iv 0)) 1 true true) fun b => .slice (some ⟨b, 0, none⟩) n.toNat k.toNat else none
    | _, _ => none) := by
  have e1 : Try.prog.underlying 24 = some (.slice 3) := by kernel_rfl
  have e2 : (Try.prog.info? 3).map (fun i => (i.bytes, i.size)) = some (8, 1) := by kernel_rfl
  have e3 : zeroA Try.prog 3 = some (iv 0) := by kernel_rfl
  obtain ⟨i, hi, hp⟩ := Option.map_eq_some_iff.1 e2
  obtain ⟨h8, h1⟩ := Prod.mk.inj hp
  have hfl : ∀ k : Nat, (List.replicate k [iv 0]).flatten = List.replicate k (iv 0) := fun k => List.flatten_replicate_singleton
  simp only [aop, e1, e2, e3, hi, h8, h1]
  cases opd σ x with
  | none => rfl
  | some v =>
    cases v <;> try rfl
    cases opd σ y with
    | none => rfl
    | some w =>
      cases w <;> try rfl
      rename_i k1 n k2 m
      simp only [e3, hi, h8, h1]
      by_cases hc : 0 ≤ n ∧ n ≤ m ∧ m * 8 ≤ 70368744177664 ∧ m ≤ 70368744177664
      · rw [if_pos hc, if_pos ⟨hc.1, hc.2.1, by have := hc.2.2.1; omega, by have := hc.2.2.2; omega, by decide, rfl⟩]
        show allocR h (.cells ((List.replicate m.toNat [iv 0]).flatten) 1 true true) _ = _
        rw [hfl]
      · rw [if_neg hc, if_neg (fun h => hc ⟨h.1, h.2.1, by have := h.2.2.1; omega, by have := h.2.2.2.1; omega⟩)]
end Go.Proofs.Ytfccmddkblbeoaa.rk
namespace Go.Proofs.Ytfccmddkblbeoaa.rk
open Go.GE
set_option linter.unusedVariables false
set_option linter.unusedSimpArgs false
set_option linter.unusedSectionVars false
set_option maxRecDepth 100000
set_option maxHeartbeats 4000000
theorem part3 (cs : Array Value) (o : Nat) : partA Try.prog 3 cs o = cs[o]? := by
  have e3 : Try.prog.underlying 3 = some (.int .i64) := by kernel_rfl
  unfold partA
  rw [e3]
  cases h : Try.prog.info? 3 with
  | none => have : (Try.prog.info? 3).isSome = true := by kernel_rfl
            rw [h] at this; cases this
  | some i => rfl
end Go.Proofs.Ytfccmddkblbeoaa.rk
namespace Go.Proofs.Ytfccmddkblbeoaa.rk
open Go.GE
set_option linter.unusedVariables false
set_option linter.unusedSimpArgs false
set_option linter.unusedSectionVars false
set_option maxRecDepth 100000
set_option maxHeartbeats 4000000
attribute [local simp] runOps_nil runOps_cons runOpsF_nil runOpsF_cons fstS_some fstF_some opStep_eq want_none oStep_true oStep_false fin_pure fin_read fin_alloc fin_write storeB wrN cellV addWr o_move o_assign o_pick o_alloc o_box o_load o_store o_nilCheck o_bin o_un o_extract o_callV o_callB o_callI callV_f callV_y callV_fc o_makeFunc partsA Instr.fill builtin_len builtin_max2 bin_add bin_sub bin_mul bin_quo bin_rem bin_lss bin_leq bin_gtr bin_geq bin_eql bin_neq un_neg un_not bin_shr bin_shl wrap_u64_id opd opds optAll putO nbeq nblt constOk isC ops sub cl cr co bodyOf thenS_normal thenS_ret thenS_exit thenS_goto afterN_normal afterN_ret afterN_exit afterN_goto condS_true condS_false blockS_normal blockS_ret blockS_exit blockS_goto headS normS normK_eq fixS_nil fixS_cons fix1 fixV emptyB keepO_nil keepO_cons roundC_normal roundC_exit roundC_ret roundC_goto sweep_eq sweepD rnm pickR pickW rootsB ptrT renT ptrFn renFn ptrB_flat ptrB_non renB_flat renB_non plainS_some drawS_some fpsOk disj unord range' dropTo enumT undef wrap_i64_id Value.cells mkCells ptrTo scal cellsAt rdN endS_ret resultsA Option.bind_some tupV finish reachN dep ptrL_eq ptrL renL_eq renL ptrV_bool ptrV_int ptrV_string ptrV_nilFunc ptrV_nilIface ptrV_nilPtr ptrV_ptr ptrV_nilSl ptrV_sl ptrV_iface ptrV_agg ptrV_tuple ptrV_func renV_bool renV_int renV_string renV_nilFunc renV_nilIface renV_nilPtr renV_ptr renV_nilSl renV_sl renV_iface renV_agg renV_tuple renV_func gotoS_goto gotoS_normal gotoS_exit gotoS_ret skip_seq sliceE bnd bndHi intOf optOpd keepT_nil keepT_cons keepC_t keepC_f lk_nil lk_cons lkC_t lkC_f has_nil has_cons hasC_t hasC_f rep_nil rep_cons repC_t repC_f put_eq putC_t putC_f mem_nil mem_cons memC_t memC_f idx_nil idx_cons idxC_t idxC_f reach_nil reachP_cons reachQ_t reachQ_f ptrB_dead renB_dead ins_eq
attribute [local simp] n71_1s n71_3s n71_4s n71_2s n71_0s Try.f71 n54_1s n54_3s n54_4s n54_2s n54_0s Try.f54 n53_1s n53_4s n53_7s n53_8s n53_6s n53_9s n53_5s n53_3s n53_11s n53_14s n53_18s n53_21s n53_22s n53_20s n53_26s n53_28s n53_31s n53_32s n53_30s n53_33s n53_29s n53_27s n53_25s n53_24s n53_34s n53_23s n53_19s n53_17s n53_16s n53_16g n53_15s n53_13s n53_36s n53_37s n53_35s n53_12s n53_10s n53_2s n53_0s Try.f53
theorem k71 (M i : Nat) (hM : M < 2 ^ 32) (hi : i < 32) (h : List Blk) : callH LL 71 [wv M, iv i] h = some ⟨.bool (M.testBit i), h, [], []⟩ := by
  refine callH_none rfl (fun _ => rfl) (go (by decide) ?_) fun _ => rfl
  have f1 := @fdiv_poww M i hi
  have hq : M / 2 ^ i < 2 ^ 32 := by have := Nat.div_le_self M (2 ^ i); omega
  have f2 := fun c => @bin_and1w Try.prog 77 c _ hq
  rw [Nat.testBit_eq_decide_div_mod_eq]
  generalize M / 2 ^ i = q at *
  rw [run71 _ _ _ (by simp)]
  by_cases h1 : q % 2 = 1
  · have h1' := eq_true (show (q : Int) % 2 = 1 by omega)
    simp (maxSteps := 1000000) (disch := first | omega | decide | assumption | simp [scal]) [f1, f2, h1, h1']
  · have h1' : ¬ (q : Int) % 2 = 1 := by omega
    simp (maxSteps := 1000000) (disch := first | omega | decide | assumption | simp [scal]) [f1, f2, h1, h1']
theorem k54 (M i : Nat) (hM : M < 2 ^ 32) (hi : i < 32) (h : List Blk) : callH LL 54 [wv M, iv i] h = some ⟨wv (M ||| 2 ^ i), h, [], []⟩ := by
  refine callH_none rfl (fun _ => rfl) (go (by decide) ?_) fun _ => rfl
  have f3 := shl_poww hi
  have p1 : 2 ^ i < 2 ^ 32 := Nat.pow_lt_pow_right (by decide) hi
  have f4 := fun c => @bin_orw Try.prog 77 c M (2 ^ i) hM p1
  generalize ((2 ^ i : Nat) : Int) = Q at *
  rw [run54 _ _ _ (by simp)]
  simp (maxSteps := 1000000) (disch := first | omega | decide | assumption | simp [scal]) [f3, f4]
/-- no day that is left, from the j-th one on, is surely quieter -/
def nxK (l : Nat → Int × Int) (M i : Nat) : Nat → Nat → Bool
  | 0, _ => true
  | k + 1, j => if !M.testBit j && quiet l j i then false else nxK l M i k (j + 1)
def nxB (l : Nat → Int × Int) (n M i : Nat) : Bool := !M.testBit i && nxK l M i n 0
section
variable (off n c : Nat) {cs : List Value} {own : Bool} {l : Nat → Int × Int}
theorem l53 (hc : SpC cs off n l) (hn : n ≤ 30) (M i : Nat) (hM : M < 2 ^ 32) (hi : i < n) : ∀ (k j : Nat), j + k = n →
    lpB Try.prog LL ⟨53, 30, 1, none⟩ n53_16 n53_17 ⟨[(1, wv M), (2, iv i), (7, .func (.func 77) #[sl 0 off n c] #[]), (15, iv n), (16, iv j)], [.cells cs 2 true own], []⟩ =
      if nxK l M i k j = true then some (.exit 0, ⟨[], [.cells cs 2 true own], []⟩) else some (.ret, ⟨[(6, .bool false)], [.cells cs 2 true own], []⟩) := by
  intro k
  induction k with
  | zero =>
    intro j hj
    obtain rfl : j = n := by omega
    rw [lpB_eq]
    simp (maxSteps := 1000000) (disch := first | omega | decide | assumption | simp [scal]) [lenA_sl lk_78, want_some q53_28g4, nxK]
  | succ k ih =>
    intro j hj
    have e1 : (j : Int) < n := by omega
    have a1 := fun bx => k77 0 off n c (h := .cells cs 2 true own :: bx) rfl hc j i (by omega) hi
    have a2 := k71 M j hM (by omega)
    have this := ih (j + 1) (by omega)
    unfold nxK
    simp only [cast1] at this
    generalize quiet l j i = x at *
    generalize M.testBit j = y at *
    rw [lpB_eq]
    cases x <;> cases y <;> simp only [Bool.not_true, Bool.not_false, Bool.and_true, Bool.and_false, Bool.false_eq_true, if_false, if_true]
    · simp (maxSteps := 1000000) (disch := first | omega | decide | assumption | simp [scal]) [lenA_sl lk_78, want_some q53_28g4, e1, a1, a2, callV_fc, this]
    · simp (maxSteps := 1000000) (disch := first | omega | decide | assumption | simp [scal]) [lenA_sl lk_78, want_some q53_28g4, e1, a1, a2, callV_fc, this]
    · simp (maxSteps := 1000000) (disch := first | omega | decide | assumption | simp [scal]) [lenA_sl lk_78, want_some q53_28g4, e1, a1, a2, callV_fc]
    · simp (maxSteps := 1000000) (disch := first | omega | decide | assumption | simp [scal]) [lenA_sl lk_78, want_some q53_28g4, e1, a1, a2, callV_fc, this]
end
section
variable (b off n c : Nat) {cs : List Value} {own : Bool} {l : Nat → Int × Int} {h : List Blk} (hb : h[b]? = some (.cells cs 2 true own)) (hc : SpC cs off n l)
include hb hc
theorem k53 (hn : n ≤ 30) (M i : Nat) (hM : M < 2 ^ 32) (hi : i < n) : callH LL 53 [sl b off n c, wv M, iv i] h = some ⟨.bool (nxB l n M i), h, [b], []⟩ := by
  refine callH_1 rfl hb noIdB_flat (args' := [sl 0 off n c, wv M, iv i]) (by simp [renV, dep, optAll, idx, nbeq]) (go (by decide) ?_) fun _ => rfl
  have a2 := k71 M i hM (by omega)
  have this := l53 off n c (own := own) hc hn M i hM hi n 0 (by omega)
  simp only [Int.natCast_zero] at this
  unfold nxB
  rw [run53 _ _ _ (by simp)]
  generalize M.testBit i = y at *
  cases y
  · cases h1 : nxK l M i n 0 <;> rw [h1] at this <;> simp only [Bool.false_eq_true, if_false, if_true] at this
    · simp (maxSteps := 1000000) (disch := first | omega | decide | assumption | simp [scal]) [lenA_sl lk_78, want_some q53_28g4, a2, this]
    · simp (maxSteps := 1000000) (disch := first | omega | decide | assumption | simp [scal]) [lenA_sl lk_78, want_some q53_28g4, a2, this]
  · simp (maxSteps := 1000000) (disch := first | omega | decide | assumption | simp [scal]) [lenA_sl lk_78, want_some q53_28g4, a2]
end
/-- the first day that can come next -/
def selK (l : Nat → Int × Int) (n M : Nat) : Nat → Nat → Option Nat
  | 0, _ => none
  | k + 1, i => if nxB l n M i = true then some i else selK l n M k (i + 1)
end Go.Proofs.Ytfccmddkblbeoaa.rk
namespace Go.Proofs.Ytfccmddkblbeoaa.rk
open Go.GE
set_option linter.unusedVariables false
set_option linter.unusedSimpArgs false
set_option linter.unusedSectionVars false
set_option maxRecDepth 100000
set_option maxHeartbeats 4000000
theorem nxK_iff {l : Nat → Int × Int} {M i : Nat} : ∀ k j, nxK l M i k j = true ↔ ∀ t, j ≤ t → t < j + k → M.testBit t = true ∨ quiet l t i = false := by
  intro k
  induction k with
  | zero => intro j; simp only [nxK, true_iff]; intro t h1 h2; omega
  | succ k ih =>
    intro j
    unfold nxK
    cases h1 : M.testBit j <;> cases h2 : quiet l j i <;> simp only [Bool.not_true, Bool.not_false, Bool.and_true, Bool.and_false, Bool.false_eq_true, if_false, if_true, ih, false_iff]
    · constructor
      · intro h t a b
        by_cases ht : t = j
        · subst ht; exact .inr h2
        · exact h t (by omega) (by omega)
      · intro h t a b; exact h t (by omega) (by omega)
    · intro h
      rcases h j (by omega) (by omega) with g | g
      · rw [h1] at g; cases g
      · rw [h2] at g; cases g
    · constructor
      · intro h t a b
        by_cases ht : t = j
        · subst ht; exact .inl h1
        · exact h t (by omega) (by omega)
      · intro h t a b; exact h t (by omega) (by omega)
    · constructor
      · intro h t a b
        by_cases ht : t = j
        · subst ht; exact .inl h1
        · exact h t (by omega) (by omega)
      · intro h t a b; exact h t (by omega) (by omega)
theorem selK_some {l : Nat → Int × Int} {n M : Nat} : ∀ k i, (∃ x, i ≤ x ∧ x < i + k ∧ nxB l n M x = true) → ∃ r, selK l n M k i = some r ∧ i ≤ r ∧ r < i + k ∧ nxB l n M r = true := by
  intro k
  induction k with
  | zero => rintro i ⟨x, h1, h2, _⟩; omega
  | succ k ih =>
    rintro i ⟨x, h1, h2, h3⟩
    unfold selK
    by_cases h : nxB l n M i = true
    · rw [if_pos h]; exact ⟨i, rfl, by omega, by omega, h⟩
    · rw [if_neg h]
      obtain ⟨r, g1, g2, g3, g4⟩ := ih (i + 1) ⟨x, by
        by_cases hx : x = i
        · subst hx; exact absurd h3 h
        · omega, by omega, h3⟩
      exact ⟨r, g1, by omega, by omega, g4⟩
theorem selK_in {l : Nat → Int × Int} {n M : Nat} : ∀ k i r, selK l n M k i = some r → i ≤ r ∧ r < i + k ∧ nxB l n M r = true := by
  intro k
  induction k with
  | zero => intro i r h; cases h
  | succ k ih =>
    intro i r h
    unfold selK at h
    by_cases h' : nxB l n M i = true
    · rw [if_pos h'] at h; cases h; exact ⟨by omega, by omega, h'⟩
    · rw [if_neg h'] at h
      have := ih (i + 1) r h
      exact ⟨by omega, by omega, this.2.2⟩
/-- how many of the first n days are left -/
def cntU : Nat → Nat → Nat
  | 0, _ => 0
  | n + 1, M => cntU n M + if M.testBit n then 0 else 1
theorem bit_or {M i t : Nat} : (M ||| 2 ^ i).testBit t = (M.testBit t || decide (i = t)) := by rw [Nat.testBit_or, Nat.testBit_two_pow]
theorem cntU_ge {M i : Nat} : ∀ n, n ≤ i → cntU n (M ||| 2 ^ i) = cntU n M := by
  intro n
  induction n with
  | zero => intro _; rfl
  | succ n ih =>
    intro h
    simp only [cntU, ih (by omega), bit_or, show ¬ i = n by omega, decide_false, Bool.or_false]
theorem cntU_lt {M i : Nat} (hM : M.testBit i = false) : ∀ n, i < n → cntU n (M ||| 2 ^ i) + 1 = cntU n M := by
  intro n
  induction n with
  | zero => intro h; omega
  | succ n ih =>
    intro h
    by_cases hi : i = n
    · subst hi
      simp only [cntU, cntU_ge i (Nat.le_refl _), bit_or, decide_true, Bool.or_true, hM, if_true]
      simp
    · have := ih (by omega)
      simp only [cntU, bit_or, hi, decide_false, Bool.or_false]
      omega
theorem cntU_zero {n : Nat} : cntU n 0 = n := by
  induction n with
  | zero => rfl
  | succ n ih => simp [cntU, ih]
theorem cntU_min {l : Nat → Int × Int} {M : Nat} : ∀ n, 0 < cntU n M → ∃ i, i < n ∧ M.testBit i = false ∧ ∀ k, k < n → M.testBit k = false → (l i).1 ≤ (l k).1 := by
  intro n
  induction n with
  | zero => intro h; simp [cntU] at h
  | succ n ih =>
    intro h
    by_cases h0 : 0 < cntU n M
    · obtain ⟨i, h1, h2, h3⟩ := ih h0
      by_cases hn : M.testBit n = false ∧ (l n).1 < (l i).1
      · refine ⟨n, by omega, hn.1, fun k hk hm => ?_⟩
        by_cases e : k = n
        · subst e; omega
        · have := h3 k (by omega) hm; omega
      · refine ⟨i, by omega, h2, fun k hk hm => ?_⟩
        by_cases e : k = n
        · subst e
          have : ¬ (l k).1 < (l i).1 := fun hh => hn ⟨hm, hh⟩
          omega
        · exact h3 k (by omega) hm
    · have hb : M.testBit n = false := by
        cases hb : M.testBit n
        · rfl
        · simp only [cntU, hb, if_true] at h; omega
      refine ⟨n, by omega, hb, fun k hk hm => ?_⟩
      by_cases e : k = n
      · subst e; omega
      · exfalso
        have : ∀ n k, k < n → M.testBit k = false → 0 < cntU n M := by
          intro n
          induction n with
          | zero => intro k hk; omega
          | succ n ih =>
            intro k hk hm
            simp only [cntU]
            by_cases e : k = n
            · subst e; rw [hm]; simp
            · have := ih k (by omega) hm; omega
        exact h0 (this n k (by omega) hm)
theorem chk_le {l : Nat → Int × Int} {n : Nat} (h : chkS l n = 0) : ∀ i, i < n → (l i).1 ≤ (l i).2 := by
  obtain ⟨n0, n30⟩ := chk_ok h
  unfold chkS at h
  rw [if_neg (by omega), if_neg (by omega)] at h
  have ha : anyB l n 0 = false := by
    cases hb : anyB l n 0
    · rfl
    · rw [hb, if_pos rfl] at h; omega
  intro i hi
  have := any_iff.1 ha i hi
  unfold bad at this
  simp only [Bool.or_eq_false_iff, Bool.not_eq_false', Bool.and_eq_true, decide_eq_true_eq] at this
  omega
end Go.Proofs.Ytfccmddkblbeoaa.rk
namespace Go.Proofs.Ytfccmddkblbeoaa.rk
open Go.GE
set_option linter.unusedVariables false
set_option linter.unusedSimpArgs false
set_option linter.unusedSectionVars false
set_option maxRecDepth 100000
set_option maxHeartbeats 4000000
/-- a call, a step at a time -/
theorem callH_lit {f : FuncId} {args args' : List Value} {h hm h' : List Blk} {roots ρ : List Nat} {rr : RR} {v : Value} {rd wr : List Nat} (hk : idle LL f args) (h1 : args.flatMap (ptrV dep) = roots) (h2 : reach h 0 reachN roots [] = ρ) (h3 : optAll (renV (idx ρ) dep) args = some args')
    (h4 : optAll (pickB h (idx ρ)) ρ = some hm) (h5 : LL.run f args' hm = some rr) (h6 : mergeB h ρ rr = some ⟨v, h', rd, wr⟩) (hrd : ∀ b, b ∈ rd → b < h.length) : callH LL f args h = some ⟨v, h', rd, wr⟩ := by
  refine callH_of hk ?_ hrd
  subst h1 h2
  show (match optAll (renV (idx _) dep) args, optAll (pickB h (idx _)) _ with
    | some args', some hm => match LL.run f args' hm with
      | some rr => mergeB h _ rr
      | none => none
    | _, _ => none) = _
  rw [h3, h4]
  simp only [h5]
  exact h6
theorem cntU_none {M : Nat} : ∀ n, cntU n M = 0 → ∀ i, i < n → M.testBit i = true := by
  intro n
  induction n with
  | zero => intro _ i hi; omega
  | succ n ih =>
    intro h i hi
    simp only [cntU] at h
    by_cases e : i = n
    · subst e
      cases hb : M.testBit i
      · rw [hb] at h; simp at h
      · rfl
    · exact ih (by omega) i (by omega)
theorem sel_succ {l : Nat → Int × Int} {n M q : Nat} (hl : ∀ i, i < n → (l i).1 ≤ (l i).2) (h : cntU n M = q + 1) : ∃ r, selK l n M n 0 = some r ∧ r < n ∧ M.testBit r = false ∧ cntU n (M ||| 2 ^ r) = q := by
  obtain ⟨i, h1, h2, h3⟩ := cntU_min (l := l) (M := M) n (by omega)
  obtain ⟨r, g1, g2, g3, g4⟩ := selK_some (l := l) (n := n) (M := M) n 0 ⟨i, by omega, by omega, by
    unfold nxB
    rw [h2, Bool.not_false, Bool.true_and, nxK_iff]
    intro t a b
    cases ht : M.testBit t
    · refine .inr ?_
      unfold quiet
      have := h3 t (by omega) ht
      have := hl t (by omega)
      simp only [decide_eq_false_iff_not]; omega
    · exact .inl rfl⟩
  have hb : M.testBit r = false := by
    unfold nxB at g4
    simp only [Bool.and_eq_true, Bool.not_eq_true'] at g4
    exact g4.1
  have := cntU_lt hb n (by omega)
  exact ⟨r, g1, by omega, hb, by omega⟩
end Go.Proofs.Ytfccmddkblbeoaa.rk
namespace Go.Proofs.Ytfccmddkblbeoaa.rk
open Go.GE
set_option linter.unusedVariables false
set_option linter.unusedSimpArgs false
set_option linter.unusedSectionVars false
set_option maxRecDepth 100000
set_option maxHeartbeats 4000000
def mE (es : List (Nat × Nat)) : List (Value × Value) := es.map fun p => (wv p.1, iv p.2)
def fmB (es : List (Nat × Nat)) : Blk := .map (mE es)
theorem findA_mE {M : Nat} : ∀ (es : List (Nat × Nat)) (j : Nat), (∃ (i v : Nat), findA (wv M) (mE es) j = some (some (j + i, iv v)) ∧ es[i]? = some (M, v)) ∨ (findA (wv M) (mE es) j = some none ∧ ∀ p, p ∈ es → p.1 ≠ M) := by
  intro es
  induction es with
  | nil => intro j; exact .inr ⟨rfl, fun p hp => by cases hp⟩
  | cons q es ih =>
    intro j
    obtain ⟨x, v⟩ := q
    have e : findA (wv M) (mE ((x, v) :: es)) j = if M = x then some (some (j, iv v)) else findA (wv M) (mE es) (j + 1) := by
      simp only [mE, List.map_cons, findA, sameK]
      by_cases h : M = x
      · subst h; simp
      · have : ((M : Int) == (x : Int)) = false := by simp; omega
        simp [h, this]
    by_cases h : M = x
    · subst h
      refine .inl ⟨0, v, ?_, rfl⟩
      rw [e, if_pos rfl]; rfl
    · rcases ih (j + 1) with ⟨i, u, h1, h2⟩ | ⟨h1, h2⟩
      · refine .inl ⟨i + 1, u, ?_, h2⟩
        rw [e, if_neg h, h1, show j + 1 + i = j + (i + 1) by omega]
      · refine .inr ⟨by rw [e, if_neg h, h1], fun p hp => ?_⟩
        rcases List.mem_cons.1 hp with rfl | hp
        · exact fun hh => h hh.symm
        · exact h2 p hp
theorem mE_set {es : List (Nat × Nat)} {i M v : Nat} : (mE es).set i (wv M, iv v) = mE (es.set i (M, v)) := by simp [mE, List.map_set]
theorem mE_app {es : List (Nat × Nat)} {M v : Nat} : mE es ++ [(wv M, iv v)] = mE (es ++ [(M, v)]) := by simp [mE]
theorem renP_mE {f : Nat → Option Nat} : ∀ {es : List (Nat × Nat)}, renP f (mE es) = some (mE es) := by
  intro es
  induction es with
  | nil => rfl
  | cons q es ih =>
    have : mE (q :: es) = (wv q.1, iv q.2) :: mE es := rfl
    rw [this]
    simp only [renP, ih]
    rfl
theorem fm_ren {f : Nat → Option Nat} {es : List (Nat × Nat)} : renB f (fmB es) = some (fmB es) := by
  simp only [fmB, renB, renP_mE, Option.map_some]
theorem fm_ptr {es : List (Nat × Nat)} : ptrB (fmB es) = [] := by
  simp only [fmB, ptrB, List.flatMap_eq_nil_iff]
  intro p hp
  simp only [mE, List.mem_map] at hp
  obtain ⟨q, _, rfl⟩ := hp
  rfl
theorem ptrV_map {d b : Nat} : ptrV (d + 1) (.map (some b)) = [b] := rfl
theorem renV_map {f : Nat → Option Nat} {d b : Nat} : renV f (d + 1) (.map (some b)) = (f b).map fun b' => .map (some b') := rfl
/-- a look-up -/
def lookM (h : List Blk) (b M : Nat) : Option OR := match h[b]? with
  | some (.map es) => match findA (wv M) es 0 with
    | some r => some ⟨.tuple #[(r.map (·.2)).getD (iv 0), .bool r.isSome], h, [b], []⟩
    | none => none
  | _ => none
def updM (h : List Blk) (b M : Nat) (v : Value) : Option OR := match h[b]? with
  | some (.map es) => match findA (wv M) es 0 with
    | some (some (i, _)) => some ⟨undef, h.set b (.map (es.set i (wv M, v))), [b], [b]⟩
    | some none => some ⟨undef, h.set b (.map (es ++ [(wv M, v)])), [b], [b]⟩
    | none => none
  | _ => none
/-- a look-up, its operands told -/
def lookX (P : Program) (t : TypeId) (h : List Blk) (x k : Option Value) (ok : Bool) : Option OR := match P.underlying t, x, k with
    | some (.map kt et), some (.map m), some kv => match P.underlying kt, zeroA P et, (match m with | none => some ([], []) | some b => (mapAt h b).map fun es => (es, [b])) with
      | some kd, some z, some (es, rd) => cond (keyKind kd kv) (match findA kv es 0 with
        | some r => some ⟨if ok then .tuple #[(r.map (·.2)).getD z, .bool r.isSome] else (r.map (·.2)).getD z, h, rd, []⟩
        | none => none) none
      | _, _, _ => none
    | _, _, _ => none
def updX (P : Program) (t : TypeId) (h : List Blk) (m k v : Option Value) : Option OR := match m, k, v with
    | some m, some k, some v => updA P h t m k v
    | _, _, _ => none
section
variable {σ : Tm} {h : List Blk} {d : Option Nat} {ty : TypeId} {pos : String} {af : Array Edge} {g : Option (Nat × Bool)} {t : TypeId} {x y z : Operand} {ok : Bool}
theorem o_look : aop Try.prog LL σ h ⟨d, .lookup t x y ok, ty, pos, af, g⟩ = lookX Try.prog t h (opd σ x) (opd σ y) ok := rfl
theorem o_mapU : aop Try.prog LL σ h ⟨d, .mapUpdate t x y z, ty, pos, af, g⟩ = updX Try.prog t h (opd σ x) (opd σ y) (opd σ z) := rfl
theorem o_insert : aop Try.prog LL σ h ⟨d, .insert t x y z, ty, pos, af, g⟩ = updX Try.prog t h (opd σ x) (opd σ y) (opd σ z) := rfl
end
theorem look108 {h : List Blk} {b M : Nat} : lookX Try.prog 108 h (some (.map (some b))) (some (wv M)) true = lookM h b M := by
  have e1 : Try.prog.underlying 108 = some (.map 77 3) := by kernel_rfl
  have e2 : Try.prog.underlying 77 = some (.int .u32) := by kernel_rfl
  have e3 : zeroA Try.prog 3 = some (iv 0) := by kernel_rfl
  simp only [lookX, e1, e2, e3, lookM, mapAt]
  rcases h[b]? with _ | blk
  · rfl
  · cases blk <;> first | rfl | (simp [keyKind]; done) | (simp [keyKind]; rfl)
theorem upd108 {h : List Blk} {b M : Nat} {v : Value} : updX Try.prog 108 h (some (.map (some b))) (some (wv M)) (some v) = updM h b M v := by
  have e1 : Try.prog.underlying 108 = some (.map 77 3) := by kernel_rfl
  have e2 : Try.prog.underlying 77 = some (.int .u32) := by kernel_rfl
  simp only [updX, updA, e1, e2, updM, mapAt]
  rcases h[b]? with _ | blk
  · rfl
  · cases blk <;> first | rfl | (simp [keyKind]; done) | (simp [keyKind]; rfl)
theorem o_makeMap {σ : Tm} {h : List Blk} {d : Option Nat} {ty : TypeId} {pos : String} {af : Array Edge} {g : Option (Nat × Bool)} {t : TypeId} : aop Try.prog LL σ h ⟨d, .makeMap t none, ty, pos, af, g⟩ = allocR h (.map []) fun b => .map (some b) := rfl
theorem look_hit {h : List Blk} {b M i v : Nat} {es : List (Nat × Nat)} (hb : h[b]? = some (fmB es)) (hf : findA (wv M) (mE es) 0 = some (some (i, iv v))) : lookM h b M = some ⟨.tuple #[iv v, .bool true], h, [b], []⟩ := by
  simp only [lookM, hb, fmB, hf]; rfl
theorem look_miss {h : List Blk} {b M : Nat} {es : List (Nat × Nat)} (hb : h[b]? = some (fmB es)) (hf : findA (wv M) (mE es) 0 = some none) : lookM h b M = some ⟨.tuple #[iv 0, .bool false], h, [b], []⟩ := by
  simp only [lookM, hb, fmB, hf]; rfl
/-- what an update leaves -/
def updE (es : List (Nat × Nat)) (M v : Nat) : List (Nat × Nat) := match findA (wv M) (mE es) 0 with
  | some (some (i, _)) => es.set i (M, v)
  | _ => es ++ [(M, v)]
theorem upd_eq {h : List Blk} {b M v : Nat} {es : List (Nat × Nat)} (hb : h[b]? = some (fmB es)) : updM h b M (iv v) = some ⟨undef, h.set b (fmB (updE es M v)), [b], [b]⟩ := by
  simp only [updM, hb, fmB, updE]
  rcases findA_mE (M := M) es 0 with ⟨i, u, h1, _⟩ | ⟨h1, _⟩ <;> rw [h1] <;> simp only [mE_set, mE_app]
theorem updE_mem {es : List (Nat × Nat)} {M v : Nat} {p : Nat × Nat} (hp : p ∈ updE es M v) : p ∈ es ∨ p = (M, v) := by
  unfold updE at hp
  split at hp
  · exact List.mem_or_eq_of_mem_set hp
  · rcases List.mem_append.1 hp with h | h
    · exact .inl h
    · exact .inr (List.mem_singleton.1 h)
theorem updE_key {es : List (Nat × Nat)} {M v K : Nat} (h : ∃ p, p ∈ es ∧ p.1 = K) : ∃ p, p ∈ updE es M v ∧ p.1 = K := by
  obtain ⟨p, hp, hk⟩ := h
  unfold updE
  rcases findA_mE (M := M) es 0 with ⟨i, u, h1, h2⟩ | ⟨h1, _⟩ <;> rw [h1] <;> simp only
  · obtain ⟨j, hj⟩ := List.getElem?_of_mem hp
    rw [Nat.zero_add]
    by_cases hij : i = j
    · subst hij
      rw [h2] at hj; cases hj
      have hl : i < es.length := (List.getElem?_eq_some_iff.1 h2).1
      exact ⟨(M, v), List.mem_of_getElem? (i := i) (by rw [List.getElem?_set]; simp [hl]), hk⟩
    · exact ⟨p, List.mem_of_getElem? (i := j) (by rw [List.getElem?_set]; simp [hij, hj]), hk⟩
  · exact ⟨p, by simp [hp], hk⟩
end Go.Proofs.Ytfccmddkblbeoaa.rk
namespace Go.Proofs.Ytfccmddkblbeoaa.rk
open Go.GE
set_option linter.unusedVariables false
set_option linter.unusedSimpArgs false
set_option linter.unusedSectionVars false
set_option maxRecDepth 100000
set_option maxHeartbeats 4000000
attribute [local simp] runOps_nil runOps_cons runOpsF_nil runOpsF_cons fstS_some fstF_some opStep_eq want_none oStep_true oStep_false fin_pure fin_read fin_alloc fin_write storeB wrN cellV addWr o_move o_assign o_pick o_alloc o_box o_load o_store o_nilCheck o_bin o_un o_extract o_callV o_callB o_callI callV_f callV_y callV_fc o_makeFunc partsA Instr.fill builtin_len builtin_max2 bin_add bin_sub bin_mul bin_quo bin_rem bin_lss bin_leq bin_gtr bin_geq bin_eql bin_neq un_neg un_not bin_shr bin_shl wrap_u64_id opd opds optAll putO nbeq nblt constOk isC ops sub cl cr co bodyOf thenS_normal thenS_ret thenS_exit thenS_goto afterN_normal afterN_ret afterN_exit afterN_goto condS_true condS_false blockS_normal blockS_ret blockS_exit blockS_goto headS normS normK_eq fixS_nil fixS_cons fix1 fixV emptyB keepO_nil keepO_cons roundC_normal roundC_exit roundC_ret roundC_goto sweep_eq sweepD rnm pickR pickW rootsB ptrT renT ptrFn renFn ptrB_flat ptrB_non renB_flat renB_non plainS_some drawS_some fpsOk disj unord range' dropTo enumT undef wrap_i64_id Value.cells mkCells ptrTo scal cellsAt rdN endS_ret resultsA Option.bind_some tupV finish reachN dep ptrL_eq ptrL renL_eq renL ptrV_bool ptrV_int ptrV_string ptrV_nilFunc ptrV_nilIface ptrV_nilPtr ptrV_ptr ptrV_nilSl ptrV_sl ptrV_iface ptrV_agg ptrV_tuple ptrV_func renV_bool renV_int renV_string renV_nilFunc renV_nilIface renV_nilPtr renV_ptr renV_nilSl renV_sl renV_iface renV_agg renV_tuple renV_func gotoS_goto gotoS_normal gotoS_exit gotoS_ret skip_seq sliceE bnd bndHi intOf optOpd keepT_nil keepT_cons keepC_t keepC_f lk_nil lk_cons lkC_t lkC_f has_nil has_cons hasC_t hasC_f rep_nil rep_cons repC_t repC_f put_eq putC_t putC_f mem_nil mem_cons memC_t memC_f idx_nil idx_cons idxC_t idxC_f reach_nil reachP_cons reachQ_t reachQ_f ptrB_dead renB_dead ins_eq
attribute [local simp] n78_1s n78_3s n78_4s n78_2s n78_0s Try.f78
def cS (f : Nat → Nat) : Nat → Nat → Nat → Nat
  | 0, _, a => a
  | k + 1, i, a => cS f k (i + 1) (a + f i)
def cR (nx : Nat → Nat → Bool) (n : Nat) : Nat → Nat → Nat
  | 0, _ => 1
  | k + 1, M => cS (fun i => cond (nx M i) (cR nx n k (M ||| 2 ^ i)) 0) n 0 0
def cF (nx : Nat → Nat → Bool) (n k M : Nat) : Nat → Nat := fun i => cond (nx M i) (cR nx n k (M ||| 2 ^ i)) 0
theorem cS_le {f : Nat → Nat} {B : Nat} (h : ∀ i, f i ≤ B) : ∀ k i a, cS f k i a ≤ a + k * B := by
  intro k
  induction k with
  | zero => intro i a; simp [cS]
  | succ k ih =>
    intro i a
    have := ih (i + 1) (a + f i)
    have := h i
    simp only [cS, Nat.add_mul]
    omega
theorem cR_le {nx : Nat → Nat → Bool} {n : Nat} : ∀ k M, cR nx n k M ≤ n ^ k := by
  intro k
  induction k with
  | zero => intro M; simp [cR]
  | succ k ih =>
    intro M
    have := cS_le (f := fun i => cond (nx M i) (cR nx n k (M ||| 2 ^ i)) 0) (B := n ^ k) (fun i => by
      cases nx M i
      · exact Nat.zero_le _
      · exact ih _) n 0 0
    simp only [cR]
    rw [Nat.pow_succ, Nat.mul_comm]
    omega
theorem pow_le12 {n k : Nat} (hn : n ≤ 12) (hk : k ≤ 12) : n ^ k ≤ 8916100448256 := by
  have h1 : n ^ k ≤ 12 ^ k := Nat.pow_le_pow_left hn k
  have h2 : 12 ^ k ≤ 12 ^ 12 := Nat.pow_le_pow_right (by decide) hk
  have h3 : (12 : Nat) ^ 12 = 8916100448256 := by decide
  omega
theorem cntU_le {n M : Nat} : cntU n M ≤ n := by
  induction n with
  | zero => exact Nat.le_refl _
  | succ n ih => simp only [cntU]; split <;> omega
theorem all_bits {n M : Nat} (hM : M < 2 ^ n) (h : cntU n M = 0) : M = 2 ^ n - 1 := by
  apply Nat.eq_of_testBit_eq
  intro i
  rw [Nat.testBit_two_pow_sub_one]
  by_cases hi : i < n
  · rw [cntU_none n h i hi]; simp [hi]
  · rw [Nat.testBit_lt_two_pow (Nat.lt_of_lt_of_le hM (Nat.pow_le_pow_right (by decide) (by omega)))]; simp [hi]
theorem cntU_all {n : Nat} : ∀ k, k ≤ n → cntU k (2 ^ n - 1) = 0 := by
  intro k
  induction k with
  | zero => intro _; rfl
  | succ k ih => intro h; simp only [cntU, ih (by omega), Nat.testBit_two_pow_sub_one, show k < n by omega, decide_true, if_true]
/-- what the table holds is true -/
def InvR (nx : Nat → Nat → Bool) (n : Nat) (es : List (Nat × Nat)) : Prop := (∀ p, p ∈ es → p.1 < 2 ^ n ∧ p.2 = cR nx n (cntU n p.1) p.1) ∧ ∃ p, p ∈ es ∧ p.1 = 2 ^ n - 1
theorem InvR.upd {nx : Nat → Nat → Bool} {n : Nat} {es : List (Nat × Nat)} (h : InvR nx n es) {M : Nat} (hM : M < 2 ^ n) : InvR nx n (updE es M (cR nx n (cntU n M) M)) := by
  refine ⟨fun p hp => ?_, updE_key h.2⟩
  rcases updE_mem hp with hp | rfl
  · exact h.1 p hp
  · exact ⟨hM, rfl⟩
abbrev mayB : Blk := .cells [.func (.func 78) #[] #[]] 1 false true
section
variable (off n c : Nat) (cs : List Value) (own : Bool)
abbrev HR0 (es eb : List (Nat × Nat)) : List Blk := [.cells [.map (some 1), .func (.func 80) #[] #[pp 2, pp 4, pp 5]] 1 false true, fmB es, .cells [sl 3 off n c] 1 false true, .cells cs 2 true own, mayB,
  .cells [pp 6] 1 false true, .cells [sl 3 off n c, pp 0, pp 7] 1 false true, .cells [.map (some 8), .func (.func 81) #[] #[pp 2, pp 5]] 1 false true, fmB eb]
abbrev HC0 (es eb : List (Nat × Nat)) : List Blk := [.cells [sl 1 off n c] 1 false true, .cells cs 2 true own, mayB, .cells [pp 4] 1 false true, .cells [sl 1 off n c, pp 5, pp 7] 1 false true,
  .cells [.map (some 6), .func (.func 80) #[] #[pp 0, pp 2, pp 3]] 1 false true, fmB es, .cells [.map (some 8), .func (.func 81) #[] #[pp 0, pp 3]] 1 false true, fmB eb]
theorem k78 (M i : Nat) (h : List Blk) : callH LL 78 [wv M, iv i] h = some ⟨.bool true, h, [], []⟩ := by
  refine callH_plain (go (by decide) ?_) rfl rfl
  rw [run78 _ _ _ (by simp)]
  simp (maxSteps := 1000000) (disch := first | omega | decide | assumption | simp [scal])
theorem rchC (es eb : List (Nat × Nat)) : reach (HC0 off n c cs own es eb) 0 reachN [5] [] = [5, 6, 0, 1, 2, 3, 4, 7, 8] := by
  simp only [reachP_cons, nblt, nbeq, mem_nil, mem_cons, memC_t, memC_f, reachQ_f, reachQ_t, Bool.or_false, Bool.or_true, Bool.false_or, Bool.true_or, decide_false, decide_true, Nat.not_lt_zero, rootsB, List.getElem?_cons_succ, List.getElem?_cons_zero, ptrB_non, ptrB_flat, ptrL_eq, ptrL, ptrV_bool, ptrV_int, ptrV_string, ptrV_nilFunc, ptrV_nilIface, ptrV_nilPtr, ptrV_nilSl, ptrV_iface, ptrV_agg, ptrV_tuple, ptrV_func, ptrV_ptr, ptrV_sl, dep, ptrFn, List.nil_append, List.cons_append, List.append_nil, reach_nil, reachN, Nat.reduceEqDiff, Nat.reduceAdd, Nat.reduceSub, reduceCtorEq, Nat.reduceLT, Nat.lt_irrefl, List.flatMap_cons, List.flatMap_nil, optAll, renL_eq, renL, renB_flat, renB_non, renV_bool, renV_int, renV_string, renV_nilFunc, renV_nilIface, renV_nilPtr, renV_ptr, renV_nilSl, renV_sl, renV_iface, renV_agg, renV_tuple, renV_func, renFn, idx_nil, idx_cons, idxC_t, idxC_f, Option.map_some, Option.map_none, fm_ptr, ptrV_map]
theorem pickC (es eb : List (Nat × Nat)) : optAll (pickB (HC0 off n c cs own es eb) (idx [5, 6, 0, 1, 2, 3, 4, 7, 8])) [5, 6, 0, 1, 2, 3, 4, 7, 8] = some (HR0 off n c cs own es eb) := by
  simp (maxSteps := 1000000) (disch := first | omega | decide | assumption | simp [scal]) [pickB, renV_map, fm_ren]
theorem callG0 {es es' eb : List (Nat × Nat)} {M v : Nat} {ws : List (Nat × Blk)} (h : LL.run 60 [pp 0, wv M] (HR0 off n c cs own es eb) = some ⟨iv v, [], ws⟩) (hw : (ws = [] ∧ es' = es) ∨ ws = [(1, fmB es')]) :
    ∃ wr, ((wr = [] ∧ es' = es) ∨ wr = [6]) ∧ callH LL 60 [pp 5, wv M] (HC0 off n c cs own es eb) = some ⟨iv v, HC0 off n c cs own es' eb, [5, 6, 0, 1, 2, 3, 4, 7, 8], wr⟩ := by
  rcases hw with ⟨rfl, rfl⟩ | rfl
  · exact ⟨[], .inl ⟨rfl, rfl⟩, callH_lit (by intro _; first | trivial | rfl) rfl (rchC ..) rfl (pickC ..) h (by simp [mergeB, renV_int, dep, optAll]) (by simp)⟩
  · exact ⟨[6], .inr rfl, callH_lit (by intro _; first | trivial | rfl) rfl (rchC ..) rfl (pickC ..) h (by simp [mergeB, renV_int, dep, optAll, fm_ren]) (by simp)⟩
end
end Go.Proofs.Ytfccmddkblbeoaa.rk
namespace Go.Proofs.Ytfccmddkblbeoaa.rk
open Go.GE
set_option linter.unusedVariables false
set_option linter.unusedSimpArgs false
set_option linter.unusedSectionVars false
set_option maxRecDepth 100000
set_option maxHeartbeats 4000000
attribute [local simp] runOps_nil runOps_cons runOpsF_nil runOpsF_cons fstS_some fstF_some opStep_eq want_none oStep_true oStep_false fin_pure fin_read fin_alloc fin_write storeB wrN cellV addWr o_move o_assign o_pick o_alloc o_box o_load o_store o_nilCheck o_bin o_un o_extract o_callV o_callB o_callI callV_f callV_y callV_fc o_makeFunc partsA Instr.fill builtin_len builtin_max2 bin_add bin_sub bin_mul bin_quo bin_rem bin_lss bin_leq bin_gtr bin_geq bin_eql bin_neq un_neg un_not bin_shr bin_shl wrap_u64_id opd opds optAll putO nbeq nblt constOk isC ops sub cl cr co bodyOf thenS_normal thenS_ret thenS_exit thenS_goto afterN_normal afterN_ret afterN_exit afterN_goto condS_true condS_false blockS_normal blockS_ret blockS_exit blockS_goto headS normS normK_eq fixS_nil fixS_cons fix1 fixV emptyB keepO_nil keepO_cons roundC_normal roundC_exit roundC_ret roundC_goto sweep_eq sweepD rnm pickR pickW rootsB ptrT renT ptrFn renFn ptrB_flat ptrB_non renB_flat renB_non plainS_some drawS_some fpsOk disj unord range' dropTo enumT undef wrap_i64_id Value.cells mkCells ptrTo scal cellsAt rdN endS_ret resultsA Option.bind_some tupV finish reachN dep ptrL_eq ptrL renL_eq renL ptrV_bool ptrV_int ptrV_string ptrV_nilFunc ptrV_nilIface ptrV_nilPtr ptrV_ptr ptrV_nilSl ptrV_sl ptrV_iface ptrV_agg ptrV_tuple ptrV_func renV_bool renV_int renV_string renV_nilFunc renV_nilIface renV_nilPtr renV_ptr renV_nilSl renV_sl renV_iface renV_agg renV_tuple renV_func gotoS_goto gotoS_normal gotoS_exit gotoS_ret skip_seq sliceE bnd bndHi intOf optOpd keepT_nil keepT_cons keepC_t keepC_f lk_nil lk_cons lkC_t lkC_f has_nil has_cons hasC_t hasC_f rep_nil rep_cons repC_t repC_f put_eq putC_t putC_f mem_nil mem_cons memC_t memC_f idx_nil idx_cons idxC_t idxC_f reach_nil reachP_cons reachQ_t reachQ_f ptrB_dead renB_dead ins_eq
attribute [local simp] n80_1s n80_3s n80_6s n80_10s n80_13s n80_14s n80_12s n80_18s n80_20s n80_22s n80_23s n80_21s n80_19s n80_17s n80_16s n80_24s n80_15s n80_11s n80_9s n80_8s n80_8g n80_7s n80_5s n80_26s n80_27s n80_25s n80_4s n80_2s n80_0s Try.f80
section
variable (off n c : Nat) {cs : List Value} {own : Bool} {l : Nat → Int × Int}
def GetOK (nx : Nat → Nat → Bool) (HH : List (Nat × Nat) → List (Nat × Nat) → List Blk) (n k : Nat) (eb : List (Nat × Nat)) : Prop := ∀ es M, InvR nx n es → M < 2 ^ n → cntU n M = k →
  ∃ es' ws, InvR nx n es' ∧ ((ws = [] ∧ es' = es) ∨ ws = [(1, fmB es')]) ∧ LL.run 60 [pp 0, wv M] (HH es eb) = some ⟨iv (cR nx n k M : Nat), [], ws⟩
theorem l80 (hc : SpC cs off n l) (hn : n ≤ 12) (eb : List (Nat × Nat)) (k : Nat) (hget : GetOK (nxB l n) (HR0 off n c cs own) n k eb) (M : Nat) (hM : M < 2 ^ n) (hk : cntU n M = k + 1) :
    ∀ (q j a : Nat) (es : List (Nat × Nat)) (wr : List Nat), j + q = n → InvR (nxB l n) n es → (wr = [] ∨ wr = [6]) → a + q * n ^ k ≤ 1000000000000000 →
    ∃ es' wr', InvR (nxB l n) n es' ∧ ((wr' = wr ∧ es' = es) ∨ wr' = [6]) ∧
      lpB Try.prog LL ⟨80, 35, 9, none⟩ n80_8 n80_9 ⟨[(0, wv M), (1, pp 0), (2, pp 2), (3, pp 3), (6, iv a), (9, iv n), (10, iv j)], HC0 off n c cs own es eb, wr⟩ =
      some (.exit 0, ⟨[(6, iv (cS (cF (nxB l n) n k M) q j a : Nat))], HC0 off n c cs own es' eb, wr'⟩) := by
  have hM32 : M < 2 ^ 32 := Nat.lt_of_lt_of_le hM (Nat.pow_le_pow_right (by decide) (by omega))
  intro q
  induction q with
  | zero =>
    intro j a es wr hj hi hw hb
    obtain rfl : j = n := by omega
    refine ⟨es, wr, hi, .inl ⟨rfl, rfl⟩, ?_⟩
    simp only [cS]
    rw [lpB_eq]
    rcases hw with rfl | rfl
    · simp (maxSteps := 1000000) (disch := first | omega | decide | assumption | simp [scal]) [loadA_eq ia_78, lenA_sl lk_78, loadA_eq ia_79, loadA_eq ia_85, o_fieldAddr fa_90_1 (by decide), loadA_eq ia_88, want_some q80_20g4, fm_ptr, fm_ren, ptrV_map, renV_map]
    · simp (maxSteps := 1000000) (disch := first | omega | decide | assumption | simp [scal]) [loadA_eq ia_78, lenA_sl lk_78, loadA_eq ia_79, loadA_eq ia_85, o_fieldAddr fa_90_1 (by decide), loadA_eq ia_88, want_some q80_20g4, fm_ptr, fm_ren, ptrV_map, renV_map]
  | succ q ih =>
    intro j a es wr hj hi hw hb
    have e0 : j < n := by omega
    have e1 : (j : Int) < n := by omega
    have a1 := fun b0 bx => k53 1 off n c (h := b0 :: .cells cs 2 true own :: bx) rfl hc (by omega) M j hM32 e0
    have a2 := k54 M j hM32 (by omega)
    have a3 := k78 M j
    rw [Nat.add_mul] at hb
    cases h : nxB l n M j
    · rw [h] at a1
      have hf : cF (nxB l n) n k M j = 0 := by simp only [cF, h, cond_false]
      obtain ⟨es', wr', i1, i2, i3⟩ := ih (j + 1) (a + 0) es wr (by omega) hi hw (by omega)
      refine ⟨es', wr', i1, i2, ?_⟩
      simp only [cS, hf]
      simp only [cast1, Nat.add_zero] at i3 ⊢
      generalize cS (cF (nxB l n) n k M) q (j + 1) a = Z at *
      rw [lpB_eq]
      clear ih hget
      rcases hw with rfl | rfl
      · simp (maxSteps := 1000000) (disch := first | omega | decide | assumption | simp [scal]) [loadA_eq ia_78, lenA_sl lk_78, loadA_eq ia_79, loadA_eq ia_85, o_fieldAddr fa_90_1 (by decide), loadA_eq ia_88, want_some q80_20g4, e0, e1, a1, fm_ptr, fm_ren, ptrV_map, renV_map, i3]
      · simp (maxSteps := 1000000) (disch := first | omega | decide | assumption | simp [scal]) [loadA_eq ia_78, lenA_sl lk_78, loadA_eq ia_79, loadA_eq ia_85, o_fieldAddr fa_90_1 (by decide), loadA_eq ia_88, want_some q80_20g4, e0, e1, a1, fm_ptr, fm_ren, ptrV_map, renV_map, i3]
    · rw [h] at a1
      have hb0 : M.testBit j = false := by
        unfold nxB at h
        simp only [Bool.and_eq_true, Bool.not_eq_true'] at h
        exact h.1
      have hcn := cntU_lt hb0 n e0
      have h2 : M ||| 2 ^ j < 2 ^ n := Nat.or_lt_two_pow hM (Nat.pow_lt_pow_right (by decide) e0)
      obtain ⟨es1, ws, g1, g2, g3⟩ := hget es (M ||| 2 ^ j) hi h2 (by omega)
      obtain ⟨wr1, g4, g5⟩ := callG0 off n c cs own g3 g2
      have hf : cF (nxB l n) n k M j = cR (nxB l n) n k (M ||| 2 ^ j) := by simp only [cF, h, cond_true]
      have hv : cR (nxB l n) n k (M ||| 2 ^ j) ≤ n ^ k := cR_le _ _
      simp only [cS, hf]
      generalize cR (nxB l n) n k (M ||| 2 ^ j) = v at *
      generalize M ||| 2 ^ j = M2 at *
      clear g3 hf h2 hcn
      have hwrap : IntKind.i64.wrap ((a : Int) + (v : Int)) = ((a + v : Nat) : Int) := by rw [wrap_i64_id (by omega) (by omega)]; rfl
      have go : ∀ wr2, (wr2 = [] ∨ wr2 = [6]) → ((wr2 = wr ∧ es1 = es) ∨ wr2 = [6]) → _ := fun wr2 x y => ih (j + 1) (a + v) es1 wr2 (by omega) g1 x (by omega)
      clear ih hget
      rcases g4 with ⟨rfl, rfl⟩ | rfl
      · obtain ⟨es', wr', i1, i2, i3⟩ := go wr hw (.inl ⟨rfl, rfl⟩)
        refine ⟨es', wr', i1, i2, ?_⟩
        simp only [cast1] at i3 ⊢
        generalize cS (cF (nxB l n) n k M) q (j + 1) (a + v) = Z at *
        generalize ((a + v : Nat) : Int) = av at *
        rw [lpB_eq]
        rcases hw with rfl | rfl
        · simp (maxSteps := 1000000) (disch := first | omega | decide | assumption | simp [scal]) [loadA_eq ia_78, lenA_sl lk_78, loadA_eq ia_79, loadA_eq ia_85, o_fieldAddr fa_90_1 (by decide), loadA_eq ia_88, want_some q80_20g4, e0, e1, a1, a2, a3, g5, hwrap, callV_f, callV_fc, fm_ptr, fm_ren, ptrV_map, renV_map, i3]
        · simp (maxSteps := 1000000) (disch := first | omega | decide | assumption | simp [scal]) [loadA_eq ia_78, lenA_sl lk_78, loadA_eq ia_79, loadA_eq ia_85, o_fieldAddr fa_90_1 (by decide), loadA_eq ia_88, want_some q80_20g4, e0, e1, a1, a2, a3, g5, hwrap, callV_f, callV_fc, fm_ptr, fm_ren, ptrV_map, renV_map, i3]
      · obtain ⟨es', wr', i1, i2, i3⟩ := go [6] (.inr rfl) (.inr rfl)
        refine ⟨es', wr', i1, .inr (by rcases i2 with ⟨h1, _⟩ | h1 <;> exact h1), ?_⟩
        simp only [cast1] at i3 ⊢
        generalize cS (cF (nxB l n) n k M) q (j + 1) (a + v) = Z at *
        generalize ((a + v : Nat) : Int) = av at *
        rw [lpB_eq]
        rcases hw with rfl | rfl
        · simp (maxSteps := 1000000) (disch := first | omega | decide | assumption | simp [scal]) [loadA_eq ia_78, lenA_sl lk_78, loadA_eq ia_79, loadA_eq ia_85, o_fieldAddr fa_90_1 (by decide), loadA_eq ia_88, want_some q80_20g4, e0, e1, a1, a2, a3, g5, hwrap, callV_f, callV_fc, fm_ptr, fm_ren, ptrV_map, renV_map, i3]
        · simp (maxSteps := 1000000) (disch := first | omega | decide | assumption | simp [scal]) [loadA_eq ia_78, lenA_sl lk_78, loadA_eq ia_79, loadA_eq ia_85, o_fieldAddr fa_90_1 (by decide), loadA_eq ia_88, want_some q80_20g4, e0, e1, a1, a2, a3, g5, hwrap, callV_f, callV_fc, fm_ptr, fm_ren, ptrV_map, renV_map, i3]
end
end Go.Proofs.Ytfccmddkblbeoaa.rk
namespace Go.Proofs.Ytfccmddkblbeoaa.rk
open Go.GE
set_option linter.unusedVariables false
set_option linter.unusedSimpArgs false
set_option linter.unusedSectionVars false
set_option maxRecDepth 100000
set_option maxHeartbeats 4000000
attribute [local simp] runOps_nil runOps_cons runOpsF_nil runOpsF_cons fstS_some fstF_some opStep_eq want_none oStep_true oStep_false fin_pure fin_read fin_alloc fin_write storeB wrN cellV addWr o_move o_assign o_pick o_alloc o_box o_load o_store o_nilCheck o_bin o_un o_extract o_callV o_callB o_callI callV_f callV_y callV_fc o_makeFunc partsA Instr.fill builtin_len builtin_max2 bin_add bin_sub bin_mul bin_quo bin_rem bin_lss bin_leq bin_gtr bin_geq bin_eql bin_neq un_neg un_not bin_shr bin_shl wrap_u64_id opd opds optAll putO nbeq nblt constOk isC ops sub cl cr co bodyOf thenS_normal thenS_ret thenS_exit thenS_goto afterN_normal afterN_ret afterN_exit afterN_goto condS_true condS_false blockS_normal blockS_ret blockS_exit blockS_goto headS normS normK_eq fixS_nil fixS_cons fix1 fixV emptyB keepO_nil keepO_cons roundC_normal roundC_exit roundC_ret roundC_goto sweep_eq sweepD rnm pickR pickW rootsB ptrT renT ptrFn renFn ptrB_flat ptrB_non renB_flat renB_non plainS_some drawS_some fpsOk disj unord range' dropTo enumT undef wrap_i64_id Value.cells mkCells ptrTo scal cellsAt rdN endS_ret resultsA Option.bind_some tupV finish reachN dep ptrL_eq ptrL renL_eq renL ptrV_bool ptrV_int ptrV_string ptrV_nilFunc ptrV_nilIface ptrV_nilPtr ptrV_ptr ptrV_nilSl ptrV_sl ptrV_iface ptrV_agg ptrV_tuple ptrV_func renV_bool renV_int renV_string renV_nilFunc renV_nilIface renV_nilPtr renV_ptr renV_nilSl renV_sl renV_iface renV_agg renV_tuple renV_func gotoS_goto gotoS_normal gotoS_exit gotoS_ret skip_seq sliceE bnd bndHi intOf optOpd keepT_nil keepT_cons keepC_t keepC_f lk_nil lk_cons lkC_t lkC_f has_nil has_cons hasC_t hasC_f rep_nil rep_cons repC_t repC_f put_eq putC_t putC_f mem_nil mem_cons memC_t memC_f idx_nil idx_cons idxC_t idxC_f reach_nil reachP_cons reachQ_t reachQ_f ptrB_dead renB_dead ins_eq
attribute [local simp] n80_1s n80_3s n80_6s n80_10s n80_13s n80_14s n80_12s n80_18s n80_20s n80_22s n80_23s n80_21s n80_19s n80_17s n80_16s n80_24s n80_15s n80_11s n80_9s n80_8s n80_8g n80_7s n80_5s n80_26s n80_27s n80_25s n80_4s n80_2s n80_0s Try.f80 n60_1s n60_3s n60_6s n60_9s n60_10s n60_8s n60_11s n60_7s n60_5s n60_13s n60_14s n60_12s n60_4s n60_2s n60_0s Try.f60
section
variable (off n c : Nat) {cs : List Value} {own : Bool} {l : Nat → Int × Int}
theorem rchR (es eb : List (Nat × Nat)) : reach (HR0 off n c cs own es eb) 0 reachN [2, 4, 5] [] = [2, 3, 4, 5, 6, 0, 1, 7, 8] := by
  simp only [reachP_cons, nblt, nbeq, mem_nil, mem_cons, memC_t, memC_f, reachQ_f, reachQ_t, Bool.or_false, Bool.or_true, Bool.false_or, Bool.true_or, decide_false, decide_true, Nat.not_lt_zero, rootsB, List.getElem?_cons_succ, List.getElem?_cons_zero, ptrB_non, ptrB_flat, ptrL_eq, ptrL, ptrV_bool, ptrV_int, ptrV_string, ptrV_nilFunc, ptrV_nilIface, ptrV_nilPtr, ptrV_nilSl, ptrV_iface, ptrV_agg, ptrV_tuple, ptrV_func, ptrV_ptr, ptrV_sl, dep, ptrFn, List.nil_append, List.cons_append, List.append_nil, reach_nil, reachN, Nat.reduceEqDiff, Nat.reduceAdd, Nat.reduceSub, reduceCtorEq, Nat.reduceLT, Nat.lt_irrefl, List.flatMap_cons, List.flatMap_nil, optAll, renL_eq, renL, renB_flat, renB_non, renV_bool, renV_int, renV_string, renV_nilFunc, renV_nilIface, renV_nilPtr, renV_ptr, renV_nilSl, renV_sl, renV_iface, renV_agg, renV_tuple, renV_func, renFn, idx_nil, idx_cons, idxC_t, idxC_f, Option.map_some, Option.map_none, fm_ptr, ptrV_map]
theorem pickR0 (es eb : List (Nat × Nat)) : optAll (pickB (HR0 off n c cs own es eb) (idx [2, 3, 4, 5, 6, 0, 1, 7, 8])) [2, 3, 4, 5, 6, 0, 1, 7, 8] = some (HC0 off n c cs own es eb) := by
  simp (maxSteps := 1000000) (disch := first | omega | decide | assumption | simp [scal]) [pickB, renV_map, fm_ren]
theorem c80 (hc : SpC cs off n l) (hn : n ≤ 12) (eb : List (Nat × Nat)) (k : Nat) (hget : GetOK (nxB l n) (HR0 off n c cs own) n k eb) (M : Nat) (hM : M < 2 ^ n) (hk : cntU n M = k + 1) (es : List (Nat × Nat)) (hi : InvR (nxB l n) n es) :
    ∃ es' wr, InvR (nxB l n) n es' ∧ ((wr = [] ∧ es' = es) ∨ wr = [1]) ∧ callH LL 80 [wv M, pp 2, pp 4, pp 5] (HR0 off n c cs own es eb) = some ⟨iv (cR (nxB l n) n (k + 1) M : Nat), HR0 off n c cs own es' eb, [2, 3, 4, 5, 6, 0, 1, 7, 8], wr⟩ := by
  have hkn : k + 1 ≤ n := by have := cntU_le (n := n) (M := M); omega
  have hp := pow_le12 hn (show k ≤ 12 by omega)
  have hnp : n * n ^ k ≤ 12 * 8916100448256 := Nat.mul_le_mul hn hp
  obtain ⟨es', wr', i1, i2, i3⟩ := l80 off n c (own := own) hc hn eb k hget M hM hk n 0 0 es [] (by omega) hi (.inl rfl) (by omega)
  have hrun : LL.run 80 [wv M, pp 0, pp 2, pp 3] (HC0 off n c cs own es eb) = some ⟨iv (cR (nxB l n) n (k + 1) M : Nat), [], wr'.map fun b => (b, fmB es')⟩ := by
    refine go (by decide) ?_
    rw [run80 _ _ _ (by simp)]
    have hR : cR (nxB l n) n (k + 1) M = cS (cF (nxB l n) n k M) n 0 0 := rfl
    rw [hR]
    generalize cS (cF (nxB l n) n k M) n 0 0 = Z at *
    clear hget
    simp only [Int.natCast_zero] at i3
    rcases i2 with ⟨rfl, rfl⟩ | rfl
    · simp (maxSteps := 1000000) (disch := first | omega | decide | assumption | simp [scal]) [loadA_eq ia_78, lenA_sl lk_78, loadA_eq ia_79, loadA_eq ia_85, o_fieldAddr fa_90_1 (by decide), loadA_eq ia_88, want_some q80_20g4, i3, fm_ptr, fm_ren, ptrV_map, renV_map]
    · simp (maxSteps := 1000000) (disch := first | omega | decide | assumption | simp [scal]) [loadA_eq ia_78, lenA_sl lk_78, loadA_eq ia_79, loadA_eq ia_85, o_fieldAddr fa_90_1 (by decide), loadA_eq ia_88, want_some q80_20g4, i3, fm_ptr, fm_ren, ptrV_map, renV_map]
  rcases i2 with ⟨rfl, rfl⟩ | rfl
  · exact ⟨es', [], i1, .inl ⟨rfl, rfl⟩, callH_lit (by intro _; first | trivial | rfl) rfl (rchR ..) rfl (pickR0 ..) hrun (by simp [mergeB, renV_int, dep, optAll]) (by simp)⟩
  · exact ⟨es', [1], i1, .inr rfl, callH_lit (by intro _; first | trivial | rfl) rfl (rchR ..) rfl (pickR0 ..) hrun (by simp [mergeB, renV_int, dep, optAll, fm_ren]) (by simp)⟩
theorem get_ok (hc : SpC cs off n l) (hn : n ≤ 12) (eb : List (Nat × Nat)) : ∀ k, GetOK (nxB l n) (HR0 off n c cs own) n k eb := by
  have hit : ∀ (es : List (Nat × Nat)) (M i v : Nat), M < 2 ^ n → findA (wv M) (mE es) 0 = some (some (i, iv v)) → LL.run 60 [pp 0, wv M] (HR0 off n c cs own es eb) = some ⟨iv v, [], []⟩ := by
    intro es M i v hM hf
    have fL : lookM (HR0 off n c cs own es eb) 1 M = some ⟨.tuple #[iv v, .bool true], HR0 off n c cs own es eb, [1], []⟩ := look_hit rfl hf
    refine go (by decide) ?_
    rw [run60 _ _ _ (by simp)]
    simp (maxSteps := 1000000) (disch := first | omega | decide | assumption | simp [scal]) [o_fieldAddr fa_110_0 (by decide), loadA_eq ia_108, o_fieldAddr fa_110_1 (by decide), loadA_eq ia_91, o_look, look108, fL, fm_ptr, fm_ren, ptrV_map, renV_map]
  intro k
  induction k with
  | zero =>
    intro es M hi hM hk
    rcases findA_mE (M := M) es 0 with ⟨i, v, h1, h2⟩ | ⟨_, h2⟩
    · have hv := (hi.1 (M, v) (List.mem_of_getElem? h2)).2
      simp only [hk] at hv
      rw [Nat.zero_add] at h1
      refine ⟨es, [], hi, .inl ⟨rfl, rfl⟩, ?_⟩
      rw [← hv]
      exact hit es M i v hM h1
    · obtain ⟨p, hp, he⟩ := hi.2
      exact absurd (he.trans (all_bits hM hk).symm) (h2 p hp)
  | succ k ih =>
    intro es M hi hM hk
    rcases findA_mE (M := M) es 0 with ⟨i, v, h1, h2⟩ | ⟨h1, h2⟩
    · have hv := (hi.1 (M, v) (List.mem_of_getElem? h2)).2
      simp only [hk] at hv
      rw [Nat.zero_add] at h1
      refine ⟨es, [], hi, .inl ⟨rfl, rfl⟩, ?_⟩
      rw [← hv]
      exact hit es M i v hM h1
    · obtain ⟨es', wr, i1, i2, i3⟩ := c80 off n c (own := own) hc hn eb k ih M hM hk es hi
      have hu := i1.upd hM
      rw [hk] at hu
      refine ⟨_, [(1, fmB (updE es' M (cR (nxB l n) n (k + 1) M)))], hu, .inr rfl, ?_⟩
      have fL : lookM (HR0 off n c cs own es eb) 1 M = some ⟨.tuple #[iv 0, .bool false], HR0 off n c cs own es eb, [1], []⟩ := look_miss rfl h1
      generalize cR (nxB l n) n (k + 1) M = Z at *
      have fU : updM (HR0 off n c cs own es' eb) 1 M (iv Z) = some ⟨undef, HR0 off n c cs own (updE es' M Z) eb, [1], [1]⟩ := upd_eq rfl
      clear ih hu hit
      refine go (by decide) ?_
      rw [run60 _ _ _ (by simp)]
      rcases i2 with ⟨rfl, rfl⟩ | rfl
      · simp (maxSteps := 1000000) (disch := first | omega | decide | assumption | simp [scal]) [o_fieldAddr fa_110_0 (by decide), loadA_eq ia_108, o_fieldAddr fa_110_1 (by decide), loadA_eq ia_91, o_look, look108, fL, o_mapU, upd108, fU, i3, callV_fc, fm_ptr, fm_ren, ptrV_map, renV_map]
      · simp (maxSteps := 1000000) (disch := first | omega | decide | assumption | simp [scal]) [o_fieldAddr fa_110_0 (by decide), loadA_eq ia_108, o_fieldAddr fa_110_1 (by decide), loadA_eq ia_91, o_look, look108, fL, o_mapU, upd108, fU, i3, callV_fc, fm_ptr, fm_ren, ptrV_map, renV_map]
end
end Go.Proofs.Ytfccmddkblbeoaa.rk
namespace Go.Proofs.Ytfccmddkblbeoaa.rk
open Go.GE
set_option linter.unusedVariables false
set_option linter.unusedSimpArgs false
set_option linter.unusedSectionVars false
set_option maxRecDepth 100000
set_option maxHeartbeats 4000000
attribute [local simp] runOps_nil runOps_cons runOpsF_nil runOpsF_cons fstS_some fstF_some opStep_eq want_none oStep_true oStep_false fin_pure fin_read fin_alloc fin_write storeB wrN cellV addWr o_move o_assign o_pick o_alloc o_box o_load o_store o_nilCheck o_bin o_un o_extract o_callV o_callB o_callI callV_f callV_y callV_fc o_makeFunc partsA Instr.fill builtin_len builtin_max2 bin_add bin_sub bin_mul bin_quo bin_rem bin_lss bin_leq bin_gtr bin_geq bin_eql bin_neq un_neg un_not bin_shr bin_shl wrap_u64_id opd opds optAll putO nbeq nblt constOk isC ops sub cl cr co bodyOf thenS_normal thenS_ret thenS_exit thenS_goto afterN_normal afterN_ret afterN_exit afterN_goto condS_true condS_false blockS_normal blockS_ret blockS_exit blockS_goto headS normS normK_eq fixS_nil fixS_cons fix1 fixV emptyB keepO_nil keepO_cons roundC_normal roundC_exit roundC_ret roundC_goto sweep_eq sweepD rnm pickR pickW rootsB ptrT renT ptrFn renFn ptrB_flat ptrB_non renB_flat renB_non plainS_some drawS_some fpsOk disj unord range' dropTo enumT undef wrap_i64_id Value.cells mkCells ptrTo scal cellsAt rdN endS_ret resultsA Option.bind_some tupV finish reachN dep ptrL_eq ptrL renL_eq renL ptrV_bool ptrV_int ptrV_string ptrV_nilFunc ptrV_nilIface ptrV_nilPtr ptrV_ptr ptrV_nilSl ptrV_sl ptrV_iface ptrV_agg ptrV_tuple ptrV_func renV_bool renV_int renV_string renV_nilFunc renV_nilIface renV_nilPtr renV_ptr renV_nilSl renV_sl renV_iface renV_agg renV_tuple renV_func gotoS_goto gotoS_normal gotoS_exit gotoS_ret skip_seq sliceE bnd bndHi intOf optOpd keepT_nil keepT_cons keepC_t keepC_f lk_nil lk_cons lkC_t lkC_f has_nil has_cons hasC_t hasC_f rep_nil rep_cons repC_t repC_f put_eq putC_t putC_f mem_nil mem_cons memC_t memC_f idx_nil idx_cons idxC_t idxC_f reach_nil reachP_cons reachQ_t reachQ_f ptrB_dead renB_dead ins_eq
attribute [local simp] n69_1s n69_3s n69_5s n69_7s n69_9s n69_11s n69_12s n69_10s n69_8s n69_6s n69_4s n69_2s n69_0s Try.f69
section
variable (off n c : Nat) {cs : List Value} {own : Bool} {l : Nat → Int × Int}
/-- a counter's blocks: the month's cells are block z, the first of them is block d -/
abbrev NW (z d : Nat) (es eb : List (Nat × Nat)) : List Blk := [.cells [sl z off n c, pp (d + 1), pp (d + 6)] 1 false true, .cells [.map (some (d + 2)), .func (.func 80) #[] #[pp (d + 3), pp (d + 4), pp (d + 5)]] 1 false true, fmB es,
  .cells [sl z off n c] 1 false true, mayB, .cells [pp d] 1 false true, .cells [.map (some (d + 7)), .func (.func 81) #[] #[pp (d + 3), pp (d + 5)]] 1 false true, fmB eb]
theorem k69 (hn : n ≤ 30) : callH LL 69 [sl 0 off n c, .func (.func 78) #[] #[]] [.cells cs 2 true own] = some ⟨pp 1, .cells cs 2 true own :: NW off n c 0 1 [(2 ^ n - 1, 1)] [(0, 1)], [0], []⟩ := by
  have f3 := shl_poww (J := n) (by omega)
  have p1 : 2 ^ n < 2 ^ 32 := Nat.pow_lt_pow_right (by decide) (by omega)
  have p0 : 0 < 2 ^ n := Nat.two_pow_pos n
  have f4 : IntKind.u32.wrap (((2 ^ n : Nat) : Int) - 1) = ((2 ^ n - 1 : Nat) : Int) := by
    rw [show ((2 ^ n : Nat) : Int) - 1 = ((2 ^ n - 1 : Nat) : Int) by omega]
    exact wrap_u32 (by omega)
  have u1 := fun b0 b1 b2 b3 b4 => upd_eq (h := [b0, b1, b2, b3, b4, fmB []]) (b := 5) (M := 2 ^ n - 1) (v := 1) (es := []) rfl
  have u2 := fun b0 b1 b2 b3 b4 b5 b6 => upd_eq (h := [b0, b1, b2, b3, b4, b5, b6, fmB []]) (b := 7) (M := 0) (v := 1) (es := []) rfl
  have hrun : LL.run 69 [sl 0 off n c, .func (.func 78) #[] #[]] [.cells cs 2 true own] = some ⟨pp 1, NW off n c 0 1 [(2 ^ n - 1, 1)] [(0, 1)], []⟩ := by
    refine go (by decide) ?_
    have e1 : updE [] (2 ^ n - 1) 1 = [(2 ^ n - 1, 1)] := rfl
    have e2 : updE [] 0 1 = [(0, 1)] := rfl
    rw [e1] at u1
    rw [e2] at u2
    generalize hE : fmB [(2 ^ n - 1, 1)] = E at *
    generalize hB : fmB [(0, 1)] = B at *
    have q1 : ptrB E = [] := by rw [← hE]; exact fm_ptr
    have q2 : ptrB B = [] := by rw [← hB]; exact fm_ptr
    have q3 : ∀ f, renB f E = some E := by intro f; rw [← hE]; exact fm_ren
    have q4 : ∀ f, renB f B = some B := by intro f; rw [← hB]; exact fm_ren

    have m0 : Blk.map [] = fmB [] := rfl
    have z0 : ∀ h b v, updX Try.prog 108 h (some (.map (some b))) (some (.int .u32 0)) (some v) = updM h b 0 v := fun h b v => upd108 (M := 0)
    generalize 2 ^ n - 1 = A at *
    generalize ((2 ^ n : Nat) : Int) = A2 at *
    simp only [List.set_cons_succ, List.set_cons_zero] at u1 u2
    simp only [Int.natCast_zero, Int.natCast_one] at u1 u2
    rw [run69 _ _ _ (by simp)]
    simp (maxSteps := 1000000) (disch := first | omega | decide | assumption | simp [scal]) [loadA_eq ia_78, za_90, o_build za_90 pl_90, za_85, sz_85, lenA_sl lk_78, loadA_eq ia_85, za_110, o_build za_110 pl_110, o_fieldAddr fa_90_1 (by decide), sz_88, o_fieldAddr fa_90_2 (by decide), loadA_eq ia_88, f3, f4, o_insert, o_makeMap, upd108, z0, m0, u1, u2, q1, q2, q3, q4, fm_ptr, ptrV_map, renV_map]
    exact ⟨hE.symm, hB.symm⟩
  exact callH_lit (by intro _; first | trivial | rfl) (roots := [0]) rfl (ρ := [0]) (by simp only [reachP_cons, nblt, nbeq, mem_nil, mem_cons, memC_t, memC_f, reachQ_f, reachQ_t, Bool.or_false, Bool.or_true, Bool.false_or, Bool.true_or, decide_false, decide_true, Nat.not_lt_zero, rootsB, List.getElem?_cons_succ, List.getElem?_cons_zero, ptrB_non, ptrB_flat, ptrL_eq, ptrL, ptrV_bool, ptrV_int, ptrV_string, ptrV_nilFunc, ptrV_nilIface, ptrV_nilPtr, ptrV_nilSl, ptrV_iface, ptrV_agg, ptrV_tuple, ptrV_func, ptrV_ptr, ptrV_sl, dep, ptrFn, List.nil_append, List.cons_append, List.append_nil, reach_nil, reachN, Nat.reduceEqDiff, Nat.reduceAdd, Nat.reduceSub, reduceCtorEq, Nat.reduceLT, Nat.lt_irrefl, List.flatMap_cons, List.flatMap_nil, optAll, renL_eq, renL, renB_flat, renB_non, renV_bool, renV_int, renV_string, renV_nilFunc, renV_nilIface, renV_nilPtr, renV_ptr, renV_nilSl, renV_sl, renV_iface, renV_agg, renV_tuple, renV_func, renFn, idx_nil, idx_cons, idxC_t, idxC_f, Option.map_some, Option.map_none]) rfl rfl hrun (by simp [mergeB, renV_ptr, dep, optAll, renB_non, renL, renV_sl, renV_map, renV_func, renFn, fm_ren, renL_eq]) (by simp)
end
end Go.Proofs.Ytfccmddkblbeoaa.rk
namespace Go.Proofs.Ytfccmddkblbeoaa.rk
open Go.GE
set_option linter.unusedVariables false
set_option linter.unusedSimpArgs false
set_option linter.unusedSectionVars false
set_option maxRecDepth 100000
set_option maxHeartbeats 4000000
attribute [local simp] runOps_nil runOps_cons runOpsF_nil runOpsF_cons fstS_some fstF_some opStep_eq want_none oStep_true oStep_false fin_pure fin_read fin_alloc fin_write storeB wrN cellV addWr o_move o_assign o_pick o_alloc o_box o_load o_store o_nilCheck o_bin o_un o_extract o_callV o_callB o_callI callV_f callV_y callV_fc o_makeFunc partsA Instr.fill builtin_len builtin_max2 bin_add bin_sub bin_mul bin_quo bin_rem bin_lss bin_leq bin_gtr bin_geq bin_eql bin_neq un_neg un_not bin_shr bin_shl wrap_u64_id opd opds optAll putO nbeq nblt constOk isC ops sub cl cr co bodyOf thenS_normal thenS_ret thenS_exit thenS_goto afterN_normal afterN_ret afterN_exit afterN_goto condS_true condS_false blockS_normal blockS_ret blockS_exit blockS_goto headS normS normK_eq fixS_nil fixS_cons fix1 fixV emptyB keepO_nil keepO_cons roundC_normal roundC_exit roundC_ret roundC_goto sweep_eq sweepD rnm pickR pickW rootsB ptrT renT ptrFn renFn ptrB_flat ptrB_non renB_flat renB_non plainS_some drawS_some fpsOk disj unord range' dropTo enumT undef wrap_i64_id Value.cells mkCells ptrTo scal cellsAt rdN endS_ret resultsA Option.bind_some tupV finish reachN dep ptrL_eq ptrL renL_eq renL ptrV_bool ptrV_int ptrV_string ptrV_nilFunc ptrV_nilIface ptrV_nilPtr ptrV_ptr ptrV_nilSl ptrV_sl ptrV_iface ptrV_agg ptrV_tuple ptrV_func renV_bool renV_int renV_string renV_nilFunc renV_nilIface renV_nilPtr renV_ptr renV_nilSl renV_sl renV_iface renV_agg renV_tuple renV_func gotoS_goto gotoS_normal gotoS_exit gotoS_ret skip_seq sliceE bnd bndHi intOf optOpd keepT_nil keepT_cons keepC_t keepC_f lk_nil lk_cons lkC_t lkC_f has_nil has_cons hasC_t hasC_f rep_nil rep_cons repC_t repC_f put_eq putC_t putC_f mem_nil mem_cons memC_t memC_f idx_nil idx_cons idxC_t idxC_f reach_nil reachP_cons reachQ_t reachQ_f ptrB_dead renB_dead ins_eq
attribute [local simp] n59_1s n59_3s n59_7s n59_10s n59_11s n59_9s n59_13s n59_16s n59_17s n59_15s n59_18s n59_14s n59_12s n59_8s n59_6s n59_5s n59_20s n59_21s n59_19s n59_4s n59_2s n59_0s Try.f59
def cntE (l : Nat → Int × Int) (n : Nat) : Int := if chkS l n = 0 then (if 12 < n then 16 else 0) else chkS l n
theorem cntE_ok {l : Nat → Int × Int} {n : Nat} (h : cntE l n = 0) : chkS l n = 0 ∧ n ≤ 12 ∧ 1 ≤ n := by
  unfold cntE at h
  split at h
  · rename_i h1
    have := chk_ok h1
    split at h
    · omega
    · exact ⟨h1, by omega, by omega⟩
  · rename_i h1; exact absurd h h1
theorem inv0 {nx : Nat → Nat → Bool} {n : Nat} : InvR nx n [(2 ^ n - 1, 1)] := by
  have := Nat.two_pow_pos n
  refine ⟨fun p hp => ?_, (2 ^ n - 1, 1), by simp, rfl⟩
  simp only [List.mem_singleton] at hp
  subst hp
  refine ⟨by simp only; omega, ?_⟩
  simp only [cntU_all n (Nat.le_refl _), cR]
section
variable (off n c : Nat) {cs : List Value} {own : Bool} {l : Nat → Int × Int}
theorem r59 (hc : SpC cs off n l) (hn : n ≤ 60) : LL.run 59 [sl 0 off n c] [.cells cs 2 true own] = if cntE l n = 0 then some ⟨.tuple #[pp 1, iv 0], NW off n c 0 1 [(2 ^ n - 1, 1)] [(0, 1)], []⟩ else some ⟨.tuple #[.pointer none, iv (cntE l n)], [], []⟩ := by
  have a := k45 0 off n c (h := [.cells cs 2 true own]) rfl hc hn
  by_cases h1 : chkS l n = 0
  · by_cases h2 : 12 < n
    · have e : cntE l n = 16 := by unfold cntE; rw [if_pos h1, if_pos h2]
      rw [if_neg (by omega), e]
      have h2' : (12 : Int) < n := by omega
      rw [h1] at a
      refine go (by decide) ?_
      rw [run59 _ _ _ (by simp)]
      simp (maxSteps := 1000000) (disch := first | omega | decide | assumption | simp [scal]) [lenA_sl lk_22, a, h2']
    · have e : cntE l n = 0 := by unfold cntE; rw [if_pos h1, if_neg h2]
      rw [if_pos e]
      have h2' : ¬ (12 : Int) < n := by omega
      have k := k69 off n c (cs := cs) (own := own) (chk_ok h1).2
      rw [h1] at a
      refine go (by decide) ?_
      rw [run59 _ _ _ (by simp)]
      simp (maxSteps := 1000000) (disch := first | omega | decide | assumption | simp [scal]) [lenA_sl lk_22, a, h2', k, fm_ptr, fm_ren, ptrV_map, renV_map]
  · have e : cntE l n = chkS l n := by unfold cntE; rw [if_neg h1]
    rw [e, if_neg h1]
    refine go (by decide) ?_
    rw [run59 _ _ _ (by simp)]
    simp (maxSteps := 1000000) (disch := first | omega | decide | assumption | simp [scal]) [lenA_sl lk_22, a, h1]
/-- the same at a place where only the month lies .. -/
theorem k59 (hc : SpC cs off n l) (hn : n ≤ 60) : callH LL 59 [sl 0 off n c] [.cells cs 2 true own] = if cntE l n = 0 then some ⟨.tuple #[pp 1, iv 0], .cells cs 2 true own :: NW off n c 0 1 [(2 ^ n - 1, 1)] [(0, 1)], [0], []⟩ else some ⟨.tuple #[.pointer none, iv (cntE l n)], [.cells cs 2 true own], [0], []⟩ := by
  have h := r59 off n c (own := own) hc hn
  by_cases h1 : cntE l n = 0
  · rw [if_pos h1] at h ⊢
    exact callH_lit (by intro _; first | trivial | rfl) (roots := [0]) rfl (ρ := [0]) (by simp only [reachP_cons, nblt, nbeq, mem_nil, mem_cons, memC_t, memC_f, reachQ_f, reachQ_t, Bool.or_false, Bool.or_true, Bool.false_or, Bool.true_or, decide_false, decide_true, Nat.not_lt_zero, rootsB, List.getElem?_cons_succ, List.getElem?_cons_zero, ptrB_non, ptrB_flat, ptrL_eq, ptrL, ptrV_bool, ptrV_int, ptrV_string, ptrV_nilFunc, ptrV_nilIface, ptrV_nilPtr, ptrV_nilSl, ptrV_iface, ptrV_agg, ptrV_tuple, ptrV_func, ptrV_ptr, ptrV_sl, dep, ptrFn, List.nil_append, List.cons_append, List.append_nil, reach_nil, reachN, Nat.reduceEqDiff, Nat.reduceAdd, Nat.reduceSub, reduceCtorEq, Nat.reduceLT, Nat.lt_irrefl, List.flatMap_cons, List.flatMap_nil, optAll, renL_eq, renL, renB_flat, renB_non, renV_bool, renV_int, renV_string, renV_nilFunc, renV_nilIface, renV_nilPtr, renV_ptr, renV_nilSl, renV_sl, renV_iface, renV_agg, renV_tuple, renV_func, renFn, idx_nil, idx_cons, idxC_t, idxC_f, Option.map_some, Option.map_none]) rfl rfl h (by simp [mergeB, renV_ptr, renV_tuple, dep, optAll, renB_non, renL, renV_sl, renV_map, renV_func, renV_int, renFn, fm_ren, renL_eq]) (by simp)
  · rw [if_neg h1] at h ⊢
    exact callH_lit (by intro _; first | trivial | rfl) (roots := [0]) rfl (ρ := [0]) (by simp only [reachP_cons, nblt, nbeq, mem_nil, mem_cons, memC_t, memC_f, reachQ_f, reachQ_t, Bool.or_false, Bool.or_true, Bool.false_or, Bool.true_or, decide_false, decide_true, Nat.not_lt_zero, rootsB, List.getElem?_cons_succ, List.getElem?_cons_zero, ptrB_non, ptrB_flat, ptrL_eq, ptrL, ptrV_bool, ptrV_int, ptrV_string, ptrV_nilFunc, ptrV_nilIface, ptrV_nilPtr, ptrV_nilSl, ptrV_iface, ptrV_agg, ptrV_tuple, ptrV_func, ptrV_ptr, ptrV_sl, dep, ptrFn, List.nil_append, List.cons_append, List.append_nil, reach_nil, reachN, Nat.reduceEqDiff, Nat.reduceAdd, Nat.reduceSub, reduceCtorEq, Nat.reduceLT, Nat.lt_irrefl, List.flatMap_cons, List.flatMap_nil, optAll, renL_eq, renL, renB_flat, renB_non, renV_bool, renV_int, renV_string, renV_nilFunc, renV_nilIface, renV_nilPtr, renV_ptr, renV_nilSl, renV_sl, renV_iface, renV_agg, renV_tuple, renV_func, renFn, idx_nil, idx_cons, idxC_t, idxC_f, Option.map_some, Option.map_none]) rfl rfl h (by simp [mergeB, renV_nilPtr, renV_tuple, dep, optAll, renL, renV_int, renL_eq]) (by simp)
/-- .. and where something else lies, too -/
theorem k59' (hc : SpC cs off n l) (hn : n ≤ 60) (X : Blk) : callH LL 59 [sl 0 off n c] [.cells cs 2 true own, X] = if cntE l n = 0 then some ⟨.tuple #[pp 2, iv 0], .cells cs 2 true own :: X :: NW off n c 0 2 [(2 ^ n - 1, 1)] [(0, 1)], [0], []⟩ else some ⟨.tuple #[.pointer none, iv (cntE l n)], [.cells cs 2 true own, X], [0], []⟩ := by
  have h := r59 off n c (own := own) hc hn
  by_cases h1 : cntE l n = 0
  · rw [if_pos h1] at h ⊢
    exact callH_lit (by intro _; first | trivial | rfl) (roots := [0]) rfl (ρ := [0]) (by simp only [reachP_cons, nblt, nbeq, mem_nil, mem_cons, memC_t, memC_f, reachQ_f, reachQ_t, Bool.or_false, Bool.or_true, Bool.false_or, Bool.true_or, decide_false, decide_true, Nat.not_lt_zero, rootsB, List.getElem?_cons_succ, List.getElem?_cons_zero, ptrB_non, ptrB_flat, ptrL_eq, ptrL, ptrV_bool, ptrV_int, ptrV_string, ptrV_nilFunc, ptrV_nilIface, ptrV_nilPtr, ptrV_nilSl, ptrV_iface, ptrV_agg, ptrV_tuple, ptrV_func, ptrV_ptr, ptrV_sl, dep, ptrFn, List.nil_append, List.cons_append, List.append_nil, reach_nil, reachN, Nat.reduceEqDiff, Nat.reduceAdd, Nat.reduceSub, reduceCtorEq, Nat.reduceLT, Nat.lt_irrefl, List.flatMap_cons, List.flatMap_nil, optAll, renL_eq, renL, renB_flat, renB_non, renV_bool, renV_int, renV_string, renV_nilFunc, renV_nilIface, renV_nilPtr, renV_ptr, renV_nilSl, renV_sl, renV_iface, renV_agg, renV_tuple, renV_func, renFn, idx_nil, idx_cons, idxC_t, idxC_f, Option.map_some, Option.map_none]) rfl rfl h (by simp [mergeB, renV_ptr, renV_tuple, dep, optAll, renB_non, renL, renV_sl, renV_map, renV_func, renV_int, renFn, fm_ren, renL_eq]) (by simp)
  · rw [if_neg h1] at h ⊢
    exact callH_lit (by intro _; first | trivial | rfl) (roots := [0]) rfl (ρ := [0]) (by simp only [reachP_cons, nblt, nbeq, mem_nil, mem_cons, memC_t, memC_f, reachQ_f, reachQ_t, Bool.or_false, Bool.or_true, Bool.false_or, Bool.true_or, decide_false, decide_true, Nat.not_lt_zero, rootsB, List.getElem?_cons_succ, List.getElem?_cons_zero, ptrB_non, ptrB_flat, ptrL_eq, ptrL, ptrV_bool, ptrV_int, ptrV_string, ptrV_nilFunc, ptrV_nilIface, ptrV_nilPtr, ptrV_nilSl, ptrV_iface, ptrV_agg, ptrV_tuple, ptrV_func, ptrV_ptr, ptrV_sl, dep, ptrFn, List.nil_append, List.cons_append, List.append_nil, reach_nil, reachN, Nat.reduceEqDiff, Nat.reduceAdd, Nat.reduceSub, reduceCtorEq, Nat.reduceLT, Nat.lt_irrefl, List.flatMap_cons, List.flatMap_nil, optAll, renL_eq, renL, renB_flat, renB_non, renV_bool, renV_int, renV_string, renV_nilFunc, renV_nilIface, renV_nilPtr, renV_ptr, renV_nilSl, renV_sl, renV_iface, renV_agg, renV_tuple, renV_func, renFn, idx_nil, idx_cons, idxC_t, idxC_f, Option.map_some, Option.map_none]) rfl rfl h (by simp [mergeB, renV_nilPtr, renV_tuple, dep, optAll, renL, renV_int, renL_eq]) (by simp)
end
end Go.Proofs.Ytfccmddkblbeoaa.rk
namespace Go.Proofs.Ytfccmddkblbeoaa.rk
open Go.GE
set_option linter.unusedVariables false
set_option linter.unusedSimpArgs false
set_option linter.unusedSectionVars false
set_option maxRecDepth 100000
set_option maxHeartbeats 4000000
attribute [local simp] runOps_nil runOps_cons runOpsF_nil runOpsF_cons fstS_some fstF_some opStep_eq want_none oStep_true oStep_false fin_pure fin_read fin_alloc fin_write storeB wrN cellV addWr o_move o_assign o_pick o_alloc o_box o_load o_store o_nilCheck o_bin o_un o_extract o_callV o_callB o_callI callV_f callV_y callV_fc o_makeFunc partsA Instr.fill builtin_len builtin_max2 bin_add bin_sub bin_mul bin_quo bin_rem bin_lss bin_leq bin_gtr bin_geq bin_eql bin_neq un_neg un_not bin_shr bin_shl wrap_u64_id opd opds optAll putO nbeq nblt constOk isC ops sub cl cr co bodyOf thenS_normal thenS_ret thenS_exit thenS_goto afterN_normal afterN_ret afterN_exit afterN_goto condS_true condS_false blockS_normal blockS_ret blockS_exit blockS_goto headS normS normK_eq fixS_nil fixS_cons fix1 fixV emptyB keepO_nil keepO_cons roundC_normal roundC_exit roundC_ret roundC_goto sweep_eq sweepD rnm pickR pickW rootsB ptrT renT ptrFn renFn ptrB_flat ptrB_non renB_flat renB_non plainS_some drawS_some fpsOk disj unord range' dropTo enumT undef wrap_i64_id Value.cells mkCells ptrTo scal cellsAt rdN endS_ret resultsA Option.bind_some tupV finish reachN dep ptrL_eq ptrL renL_eq renL ptrV_bool ptrV_int ptrV_string ptrV_nilFunc ptrV_nilIface ptrV_nilPtr ptrV_ptr ptrV_nilSl ptrV_sl ptrV_iface ptrV_agg ptrV_tuple ptrV_func renV_bool renV_int renV_string renV_nilFunc renV_nilIface renV_nilPtr renV_ptr renV_nilSl renV_sl renV_iface renV_agg renV_tuple renV_func gotoS_goto gotoS_normal gotoS_exit gotoS_ret skip_seq sliceE bnd bndHi intOf optOpd keepT_nil keepT_cons keepC_t keepC_f lk_nil lk_cons lkC_t lkC_f has_nil has_cons hasC_t hasC_f rep_nil rep_cons repC_t repC_f put_eq putC_t putC_f mem_nil mem_cons memC_t memC_f idx_nil idx_cons idxC_t idxC_f reach_nil reachP_cons reachQ_t reachQ_f ptrB_dead renB_dead ins_eq
attribute [local simp] n63_1s n63_4s n63_7s n63_8s n63_6s n63_9s n63_5s n63_3s n63_12s n63_17s n63_19s n63_20s n63_18s n63_16s n63_24s n63_27s n63_28s n63_26s n63_29s n63_25s n63_23s n63_22s n63_30s n63_21s n63_15s n63_14s n63_14g n63_13s n63_11s n63_32s n63_33s n63_31s n63_10s n63_2s n63_0s Try.f63
theorem wrap_nn {n : Nat} (h : n < 2 ^ 63) : IntKind.i64.wrap (n : Int) = n := wrap_i64_id (by omega) (by omega)
theorem bin_and1i {P : Program} {t : TypeId} {c : Bool} {w : Nat} (h : w < 2 ^ 63) : binA P .and t c (.int .i64 (w : Int)) (.int .i64 1) = some (.int .i64 ((w % 2 : Nat) : Int)) := by
  have e : (BitVec.ofInt 64 (w : Int) &&& BitVec.ofInt 64 1).toNat = w % 2 := by
    rw [BitVec.ofInt_natCast]
    rw [show BitVec.ofInt 64 1 = BitVec.ofNat 64 1 from rfl, BitVec.toNat_and, BitVec.toNat_ofNat, BitVec.toNat_ofNat, Nat.mod_eq_of_lt (by omega), Nat.mod_eq_of_lt (by decide : 1 < 2 ^ 64), Nat.and_one_is_mod]
  have e' : IntKind.i64.wrap ((BitVec.ofInt 64 (w : Int) &&& BitVec.ofInt 64 1).toNat : Int) = ((w % 2 : Nat) : Int) := by rw [e]; exact wrap_nn (by omega)
  show some (Value.int .i64 (IntKind.i64.wrap ((BitVec.ofInt 64 (w : Int) &&& BitVec.ofInt 64 1).toNat : Int))) = _
  rw [e']
theorem bin_ori {P : Program} {t : TypeId} {c : Bool} {w v : Nat} (h : w < 2 ^ 63) (h' : v < 2 ^ 63) : binA P .or t c (.int .i64 (w : Int)) (.int .i64 (v : Int)) = some (.int .i64 ((w ||| v : Nat) : Int)) := by
  have hl : w ||| v < 2 ^ 63 := Nat.or_lt_two_pow h h'
  have e : (BitVec.ofInt 64 (w : Int) ||| BitVec.ofInt 64 (v : Int)).toNat = w ||| v := by
    rw [BitVec.ofInt_natCast, BitVec.ofInt_natCast, BitVec.toNat_or, BitVec.toNat_ofNat, BitVec.toNat_ofNat, Nat.mod_eq_of_lt (by omega), Nat.mod_eq_of_lt (by omega)]
  have e' : IntKind.i64.wrap ((BitVec.ofInt 64 (w : Int) ||| BitVec.ofInt 64 (v : Int)).toNat : Int) = ((w ||| v : Nat) : Int) := by rw [e]; exact wrap_nn hl
  show some (Value.int .i64 (IntKind.i64.wrap ((BitVec.ofInt 64 (w : Int) ||| BitVec.ofInt 64 (v : Int)).toNat : Int))) = _
  rw [e']
theorem fdiv_powi {w i : Nat} (hi : i < 64) : ((w : Int).fdiv (2 ^ min i IntKind.i64.bits)) = ((w / 2 ^ i : Nat) : Int) := by
  rw [show min i IntKind.i64.bits = i from Nat.min_eq_left (Nat.le_of_lt hi), Int.fdiv_eq_ediv_of_nonneg _ (by exact_mod_cast Nat.zero_le _)]
  simp
theorem shl_powi {J : Nat} (hJ : J < 63) : IntKind.i64.wrap (2 ^ min J IntKind.i64.bits) = ((2 ^ J : Nat) : Int) := by
  rw [show min J IntKind.i64.bits = J from Nat.min_eq_left (by have : IntKind.i64.bits = 64 := rfl; omega), show ((2 : Int) ^ J) = ((2 ^ J : Nat) : Int) by simp]
  exact wrap_nn (Nat.pow_lt_pow_right (by decide) hJ)
theorem bit_dm {M i : Nat} : M.testBit i = decide (M / 2 ^ i % 2 = 1) := Nat.testBit_eq_decide_div_mod_eq
section
variable (off n c : Nat) {cs : List Value} {own : Bool} {l : Nat → Int × Int}
theorem l63 (hc : SpC cs off n l) (hn : n ≤ 30) (M i : Nat) (hM : M < 2 ^ 32) (hi : i < n) : ∀ (k j : Nat), j + k = n →
    lpB Try.prog LL ⟨63, 50, 1, none⟩ n63_14 n63_15 ⟨[(0, sl 0 off n c), (1, iv M), (2, iv i), (11, iv j)], [.cells cs 2 true own], []⟩ =
      if nxK l M i k j = true then some (.exit 0, ⟨[], [.cells cs 2 true own], []⟩) else some (.ret, ⟨[(10, .bool false)], [.cells cs 2 true own], []⟩) := by
  intro k
  induction k with
  | zero =>
    intro j hj
    obtain rfl : j = n := by omega
    rw [lpB_eq]
    simp (maxSteps := 1000000) (disch := first | omega | decide | assumption | simp [scal]) [lenA_sl lk_22, want_some q63_4g5, want_some q63_4g9, want_some q63_4g13, want_some q63_24g5, nxK]
  | succ k ih =>
    intro j hj
    have e1 : (j : Int) < n := by omega
    have e0 : j < n := by omega
    have a1 := fun bx => k55 0 off n c (h := .cells cs 2 true own :: bx) rfl hc j i (by omega) hi
    have f1 := @fdiv_powi M j (by omega)
    have hq : M / 2 ^ j < 2 ^ 63 := by have := Nat.div_le_self M (2 ^ j); omega
    have f2 := fun cc => @bin_and1i Try.prog 3 cc _ hq
    have this := ih (j + 1) (by omega)
    unfold nxK
    simp only [cast1] at this
    rw [show M.testBit j = decide (M / 2 ^ j % 2 = 1) from bit_dm]
    generalize M / 2 ^ j = q at *
    generalize quiet l j i = x at *
    rw [lpB_eq]
    clear ih
    by_cases h1 : q % 2 = 1
    · have h1' : ¬ (q : Int) % 2 = 0 := by omega
      simp only [h1, decide_true, Bool.not_true, Bool.false_and, Bool.false_eq_true, if_false]
      simp (maxSteps := 1000000) (disch := first | omega | decide | assumption | simp [scal]) [lenA_sl lk_22, want_some q63_4g5, want_some q63_4g9, want_some q63_4g13, want_some q63_24g5, e0, e1, f1, f2, h1, h1', this]
    · have h0 : q % 2 = 0 := by omega
      have h1' : (q : Int) % 2 = 0 := by omega
      cases x <;> simp only [h1, decide_false, Bool.not_false, Bool.true_and, Bool.false_eq_true, if_false, if_true]
      · simp (maxSteps := 1000000) (disch := first | omega | decide | assumption | simp [scal]) [lenA_sl lk_22, want_some q63_4g5, want_some q63_4g9, want_some q63_4g13, want_some q63_24g5, e0, e1, f1, f2, h0, h1', a1, this]
      · simp (maxSteps := 1000000) (disch := first | omega | decide | assumption | simp [scal]) [lenA_sl lk_22, want_some q63_4g5, want_some q63_4g9, want_some q63_4g13, want_some q63_24g5, e0, e1, f1, f2, h0, h1', a1]
end
section
variable (b off n c : Nat) {cs : List Value} {own : Bool} {l : Nat → Int × Int} {h : List Blk} (hb : h[b]? = some (.cells cs 2 true own)) (hc : SpC cs off n l)
include hb hc
theorem k63 (hn : n ≤ 30) (M i : Nat) (hM : M < 2 ^ 32) (hi : i < n) : callH LL 63 [sl b off n c, iv M, iv i, iv (-1), iv (-1)] h = some ⟨.bool (nxB l n M i), h, [b], []⟩ := by
  refine callH_1 rfl hb noIdB_flat (args' := [sl 0 off n c, iv M, iv i, iv (-1), iv (-1)]) (by simp [renV, dep, optAll, idx, nbeq]) (go (by decide) ?_) fun _ => rfl
  have this := l63 off n c (own := own) hc hn M i hM hi n 0 (by omega)
  have f1 := @fdiv_powi M i (by omega)
  have hq : M / 2 ^ i < 2 ^ 63 := by have := Nat.div_le_self M (2 ^ i); omega
  have f2 := fun cc => @bin_and1i Try.prog 3 cc _ hq
  have e2 : ¬ (i : Int) = -1 := by omega
  simp only [Int.natCast_zero] at this
  unfold nxB
  rw [show M.testBit i = decide (M / 2 ^ i % 2 = 1) from bit_dm]
  generalize M / 2 ^ i = q at *
  rw [run63 _ _ _ (by simp)]
  by_cases h1 : q % 2 = 1
  · have h1' : (q : Int) % 2 = 1 := by omega
    simp only [h1, decide_true, Bool.not_true, Bool.false_and]
    simp (maxSteps := 1000000) (disch := first | omega | decide | assumption | simp [scal]) [lenA_sl lk_22, want_some q63_4g5, want_some q63_4g9, want_some q63_4g13, want_some q63_24g5, f1, f2, h1, h1', e2]
  · have h0 : q % 2 = 0 := by omega
    have h1' : ¬ (q : Int) % 2 = 1 := by omega
    simp only [h1, decide_false, Bool.not_false, Bool.true_and]
    cases h2 : nxK l M i n 0 <;> rw [h2] at this <;> simp only [Bool.false_eq_true, if_false, if_true] at this
    · simp (maxSteps := 1000000) (disch := first | omega | decide | assumption | simp [scal]) [lenA_sl lk_22, want_some q63_4g5, want_some q63_4g9, want_some q63_4g13, want_some q63_24g5, f1, f2, h0, h1', e2, this]
    · simp (maxSteps := 1000000) (disch := first | omega | decide | assumption | simp [scal]) [lenA_sl lk_22, want_some q63_4g5, want_some q63_4g9, want_some q63_4g13, want_some q63_24g5, f1, f2, h0, h1', e2, this]
/-- with a day that has to come before another one -/
theorem k63b (hn : n ≤ 30) (M i x y : Nat) (hM : M < 2 ^ 32) (hi : i < n) (hx : x < n) : callH LL 63 [sl b off n c, iv M, iv i, iv x, iv y] h = some ⟨.bool (nxB l n M i && (!decide (i = y) || M.testBit x)), h, [b], []⟩ := by
  refine callH_1 rfl hb noIdB_flat (args' := [sl 0 off n c, iv M, iv i, iv x, iv y]) (by simp [renV, dep, optAll, idx, nbeq]) (go (by decide) ?_) fun _ => rfl
  have this := l63 off n c (own := own) hc hn M i hM hi n 0 (by omega)
  have f1 := @fdiv_powi M i (by omega)
  have hq : M / 2 ^ i < 2 ^ 63 := by have := Nat.div_le_self M (2 ^ i); omega
  have f2 := fun cc => @bin_and1i Try.prog 3 cc _ hq
  have g1 := @fdiv_powi M x (by omega)
  have gq : M / 2 ^ x < 2 ^ 63 := by have := Nat.div_le_self M (2 ^ x); omega
  have g2 := fun cc => @bin_and1i Try.prog 3 cc _ gq
  simp only [Int.natCast_zero] at this
  unfold nxB
  rw [show M.testBit i = decide (M / 2 ^ i % 2 = 1) from bit_dm, show M.testBit x = decide (M / 2 ^ x % 2 = 1) from bit_dm]
  generalize M / 2 ^ i = q at *
  generalize M / 2 ^ x = r at *
  rw [run63 _ _ _ (by simp)]
  have hx0 : (0 : Int) ≤ x := by omega
  by_cases h1 : q % 2 = 1
  · have h1' : (q : Int) % 2 = 1 := by omega
    simp only [h1, decide_true, Bool.not_true, Bool.false_and]
    simp (maxSteps := 1000000) (disch := first | omega | decide | assumption | simp [scal]) [lenA_sl lk_22, want_some q63_4g5, want_some q63_4g9, want_some q63_4g13, want_some q63_24g5, f1, f2, h1, h1']
  · have h0 : q % 2 = 0 := by omega
    have h1' : ¬ (q : Int) % 2 = 1 := by omega
    simp only [h1, decide_false, Bool.not_false, Bool.true_and]
    by_cases e2 : i = y
    · have e2' := eq_true (show (i : Int) = y by omega)
      by_cases r1 : r % 2 = 1
      · have r1' : ¬ (r : Int) % 2 = 0 := by omega
        simp only [e2, r1, decide_true, Bool.not_true, Bool.false_or, Bool.and_true]
        cases h2 : nxK l M i n 0 <;> rw [h2] at this <;> simp only [Bool.false_eq_true, if_false, if_true] at this <;> rw [e2] at h2 <;> rw [h2]
        · rw [← e2]
          simp (maxSteps := 1000000) (disch := first | omega | decide | assumption | simp [scal]) [lenA_sl lk_22, want_some q63_4g5, want_some q63_4g9, want_some q63_4g13, want_some q63_24g5, f1, f2, g1, g2, h0, h1', e2', hx0, r1, r1', this]
        · rw [← e2]
          simp (maxSteps := 1000000) (disch := first | omega | decide | assumption | simp [scal]) [lenA_sl lk_22, want_some q63_4g5, want_some q63_4g9, want_some q63_4g13, want_some q63_24g5, f1, f2, g1, g2, h0, h1', e2', hx0, r1, r1', this]
      · have r0 : r % 2 = 0 := by omega
        have r1' : (r : Int) % 2 = 0 := by omega
        simp only [e2, r1, decide_true, decide_false, Bool.not_true, Bool.or_false, Bool.and_false]
        rw [← e2]
        simp (maxSteps := 1000000) (disch := first | omega | decide | assumption | simp [scal]) [lenA_sl lk_22, want_some q63_4g5, want_some q63_4g9, want_some q63_4g13, want_some q63_24g5, f1, f2, g1, g2, h0, h1', e2', hx0, r0, r1']
    · have e2' : ¬ (i : Int) = y := by omega
      simp only [e2, decide_false, Bool.not_false, Bool.true_or, Bool.and_true]
      cases h2 : nxK l M i n 0 <;> rw [h2] at this <;> simp only [Bool.false_eq_true, if_false, if_true] at this
      · simp (maxSteps := 1000000) (disch := first | omega | decide | assumption | simp [scal]) [lenA_sl lk_22, want_some q63_4g5, want_some q63_4g9, want_some q63_4g13, want_some q63_24g5, f1, f2, h0, h1', e2', this]
      · simp (maxSteps := 1000000) (disch := first | omega | decide | assumption | simp [scal]) [lenA_sl lk_22, want_some q63_4g5, want_some q63_4g9, want_some q63_4g13, want_some q63_24g5, f1, f2, h0, h1', e2', this]
end
end Go.Proofs.Ytfccmddkblbeoaa.rk
namespace Go.Proofs.Ytfccmddkblbeoaa.rk
open Go.GE
set_option linter.unusedVariables false
set_option linter.unusedSimpArgs false
set_option linter.unusedSectionVars false
set_option maxRecDepth 100000
set_option maxHeartbeats 4000000
attribute [local simp] runOps_nil runOps_cons runOpsF_nil runOpsF_cons fstS_some fstF_some opStep_eq want_none oStep_true oStep_false fin_pure fin_read fin_alloc fin_write storeB wrN cellV addWr o_move o_assign o_pick o_alloc o_box o_load o_store o_nilCheck o_bin o_un o_extract o_callV o_callB o_callI callV_f callV_y callV_fc o_makeFunc partsA Instr.fill builtin_len builtin_max2 bin_add bin_sub bin_mul bin_quo bin_rem bin_lss bin_leq bin_gtr bin_geq bin_eql bin_neq un_neg un_not bin_shr bin_shl wrap_u64_id opd opds optAll putO nbeq nblt constOk isC ops sub cl cr co bodyOf thenS_normal thenS_ret thenS_exit thenS_goto afterN_normal afterN_ret afterN_exit afterN_goto condS_true condS_false blockS_normal blockS_ret blockS_exit blockS_goto headS normS normK_eq fixS_nil fixS_cons fix1 fixV emptyB keepO_nil keepO_cons roundC_normal roundC_exit roundC_ret roundC_goto sweep_eq sweepD rnm pickR pickW rootsB ptrT renT ptrFn renFn ptrB_flat ptrB_non renB_flat renB_non plainS_some drawS_some fpsOk disj unord range' dropTo enumT undef wrap_i64_id Value.cells mkCells ptrTo scal cellsAt rdN endS_ret resultsA Option.bind_some tupV finish reachN dep ptrL_eq ptrL renL_eq renL ptrV_bool ptrV_int ptrV_string ptrV_nilFunc ptrV_nilIface ptrV_nilPtr ptrV_ptr ptrV_nilSl ptrV_sl ptrV_iface ptrV_agg ptrV_tuple ptrV_func renV_bool renV_int renV_string renV_nilFunc renV_nilIface renV_nilPtr renV_ptr renV_nilSl renV_sl renV_iface renV_agg renV_tuple renV_func gotoS_goto gotoS_normal gotoS_exit gotoS_ret skip_seq sliceE bnd bndHi intOf optOpd keepT_nil keepT_cons keepC_t keepC_f lk_nil lk_cons lkC_t lkC_f has_nil has_cons hasC_t hasC_f rep_nil rep_cons repC_t repC_f put_eq putC_t putC_f mem_nil mem_cons memC_t memC_f idx_nil idx_cons idxC_t idxC_f reach_nil reachP_cons reachQ_t reachQ_f ptrB_dead renB_dead ins_eq
attribute [local simp] n62_1s n62_3s n62_5s n62_8s n62_13s n62_15s n62_16s n62_14s n62_12s n62_20s n62_25s n62_27s n62_28s n62_26s n62_24s n62_32s n62_34s n62_35s n62_33s n62_31s n62_30s n62_36s n62_29s n62_23s n62_22s n62_22g n62_21s n62_19s n62_18s n62_37s n62_17s n62_11s n62_10s n62_10g n62_9s n62_7s n62_39s n62_40s n62_38s n62_6s n62_4s n62_2s n62_0s Try.f62
def tL (g : Nat → Nat) (N : Nat) : List Value := (List.range N).map fun x => iv (g x : Nat)
abbrev tb (g : Nat → Nat) (N : Nat) : Blk := .cells (tL g N) 1 true true
def up (g : Nat → Nat) (S v : Nat) : Nat → Nat := fun x => if x = S then v else g x
theorem tL_len {g : Nat → Nat} {N : Nat} : (tL g N).length = N := by simp [tL]
theorem tL_get {g : Nat → Nat} {N x : Nat} (h : x < N) : (tL g N)[x]? = some (iv (g x : Nat)) := by simp [tL, h]
theorem tL_set {g : Nat → Nat} {N S v : Nat} : (tL g N).set S (iv (v : Nat)) = tL (up g S v) N := by
  apply List.ext_getElem?
  intro j
  rw [List.getElem?_set, tL_len]
  by_cases hn : j < N
  · rw [tL_get hn, tL_get hn]
    by_cases hj : S = j
    · subst hj; simp [up, hn]
    · have : ¬ j = S := fun h => hj h.symm
      simp [up, hj, this]
  · rw [List.getElem?_eq_none (by rw [tL_len]; omega), List.getElem?_eq_none (by rw [tL_len]; omega)]
    by_cases hj : S = j
    · rw [if_pos hj, if_neg (by omega)]
    · rw [if_neg hj]
theorem tL_zero {N : Nat} : List.replicate N (iv 0) = tL (fun _ => 0) N := by
  apply List.ext_getElem?
  intro j
  by_cases hn : j < N
  · rw [tL_get hn]; simp [hn]
  · rw [List.getElem?_eq_none (by simp; omega), List.getElem?_eq_none (by rw [tL_len]; omega)]
theorem tL_congr {g g' : Nat → Nat} {N : Nat} (h : ∀ x, x < N → g x = g' x) : tL g N = tL g' N := by
  unfold tL
  apply List.map_congr_left
  intro x hx
  rw [h x (List.mem_range.1 hx)]
theorem up_up {g : Nat → Nat} {S v w : Nat} : up (up g S v) S w = up g S w := by
  funext x; unfold up; split <;> rfl
theorem up_self {g : Nat → Nat} {S v : Nat} : up g S v S = v := by simp [up]
theorem up_other {g : Nat → Nat} {S v x : Nat} (h : x ≠ S) : up g S v x = g x := by simp [up, h]
theorem or_gt {M j : Nat} (h : M.testBit j = false) : M < M ||| 2 ^ j := by
  have h1 : M ≤ M ||| 2 ^ j := Nat.left_le_or
  rcases Nat.lt_or_ge M (M ||| 2 ^ j) with h2 | h2
  · exact h2
  · have e : M ||| 2 ^ j = M := Nat.le_antisymm h2 h1
    have := congrArg (fun z => z.testBit j) e
    simp only [bit_or, h] at this
    simp at this
/-- the number of ways in which a set goes on -/
def gR (nx : Nat → Nat → Bool) (n : Nat) (x : Nat) : Nat := cR nx n (cntU n x) x
section
variable (off n c : Nat) {cs : List Value} {own : Bool} {nx : Nat → Nat → Bool} (A B : Int)
def NxOK (nx : Nat → Nat → Bool) (n : Nat) (A B : Int) (v : Value) (b0 : Blk) : Prop := (∀ M i, nx M i = true → M.testBit i = false) ∧
  ∀ M i bx, M < 2 ^ 32 → i < n → callH LL 63 [v, iv (M : Nat), iv (i : Nat), iv A, iv B] (b0 :: bx) = some ⟨.bool (nx M i), b0 :: bx, [0], []⟩
theorem l62i (hx : NxOK nx n A B (sl 0 off n c) (.cells cs 2 true own)) (hn : n ≤ 12) (S k : Nat) (hS : S < 2 ^ n) (hk : cntU n S = k + 1) (g : Nat → Nat) (hg : ∀ x, S < x → x < 2 ^ n → g x = gR nx n x) :
    ∀ (q j a : Nat), j + q = n → a + q * n ^ k ≤ 1000000000000000 →
    lpB Try.prog LL ⟨62, 52, 1, none⟩ n62_22 n62_23 ⟨[(9, iv j), (0, sl 0 off n c), (1, iv A), (2, iv B), (7, sl 1 0 (2 ^ n) (2 ^ n)), (8, iv S)], [.cells cs 2 true own, tb (up g S a) (2 ^ n)], []⟩ =
      some (.exit 2, ⟨[(0, sl 0 off n c), (1, iv A), (2, iv B), (7, sl 1 0 (2 ^ n) (2 ^ n)), (8, iv S)], [.cells cs 2 true own, tb (up g S (cS (cF nx n k S) q j a)) (2 ^ n)], []⟩) := by
  have hS32 : S < 2 ^ 32 := Nat.lt_of_lt_of_le hS (Nat.pow_le_pow_right (by decide) (by omega))
  intro q
  induction q with
  | zero =>
    intro j a hj hb
    obtain rfl : j = n := by omega
    simp only [cS, tb]
    generalize tL (up g S a) (2 ^ j) = U
    generalize 2 ^ j = N at *
    rw [lpB_eq]
    simp (maxSteps := 1000000) (disch := first | omega | decide | assumption | simp [scal]) [lenA_sl lk_22, lenA_sl lk_24, o_indexAddrS es_24, sz_3, loadA_eq ia_3]
  | succ q ih =>
    intro j a hj hb
    have e0 : j < n := by omega
    have e1 : (j : Int) < n := by omega
    have a1 := fun bx => hx.2 S j bx hS32 e0
    rw [Nat.add_mul] at hb
    cases h : nx S j
    · simp only [h] at a1
      have hf : cF nx n k S j = 0 := by simp only [cF, h, cond_false]
      have this := ih (j + 1) (a + 0) (by omega) (by omega)
      simp only [cS, hf]
      simp only [cast1, Nat.add_zero, tb] at this ⊢
      generalize cS (cF nx n k S) q (j + 1) a = Z at *
      generalize tL (up g S a) (2 ^ n) = U at *
      generalize tL (up g S Z) (2 ^ n) = U2 at *
      clear ih hg hx
      generalize 2 ^ n = N at *
      rw [lpB_eq]
      simp (maxSteps := 1000000) (disch := first | omega | decide | assumption | simp [scal]) [lenA_sl lk_22, lenA_sl lk_24, o_indexAddrS es_24, sz_3, loadA_eq ia_3, e0, e1, a1, this]
    · simp only [h] at a1
      have hb0 := hx.1 S j h
      have hcn := cntU_lt hb0 n e0
      have h2 : S ||| 2 ^ j < 2 ^ n := Nat.or_lt_two_pow hS (Nat.pow_lt_pow_right (by decide) e0)
      have h3 := or_gt hb0
      have hf : cF nx n k S j = cR nx n k (S ||| 2 ^ j) := by simp only [cF, h, cond_true]
      have hv : cR nx n k (S ||| 2 ^ j) ≤ n ^ k := cR_le _ _
      have hgv : up g S a (S ||| 2 ^ j) = cR nx n k (S ||| 2 ^ j) := by
        rw [up_other (by omega), hg _ h3 h2]
        unfold gR
        rw [show cntU n (S ||| 2 ^ j) = k by omega]
      have this := ih (j + 1) (a + cR nx n k (S ||| 2 ^ j)) (by omega) (by omega)
      have p1 := tL_get (g := up g S a) hS
      have p2 := tL_get (g := up g S a) h2
      rw [up_self] at p1
      rw [hgv] at p2
      have u1 := fun v => tL_set (g := up g S a) (N := 2 ^ n) (S := S) (v := v)
      simp only [up_up] at u1
      have ul := tL_len (g := up g S a) (N := 2 ^ n)
      have s1 := shl_powi (J := j) (by omega)
      have s2 := fun cc => @bin_ori Try.prog 3 cc S (2 ^ j) (by omega) (Nat.pow_lt_pow_right (by decide) (by omega))
      simp only [cS, hf]
      simp only [cast1, tb] at this ⊢
      clear hf hgv hcn
      have w1 := u1 (a + cR nx n k (S ||| 2 ^ j))
      clear u1
      generalize cR nx n k (S ||| 2 ^ j) = v at *
      generalize cS (cF nx n k S) q (j + 1) (a + v) = Z at *
      have hwrap : IntKind.i64.wrap ((a : Int) + (v : Int)) = ((a + v : Nat) : Int) := by rw [wrap_i64_id (by omega) (by omega)]; rfl
      clear ih hg hx
      generalize ((a + v : Nat) : Int) = av at *
      generalize tL (up g S (a + v)) (2 ^ n) = U1 at *
      generalize tL (up g S a) (2 ^ n) = U at *
      generalize tL (up g S Z) (2 ^ n) = U2 at *
      generalize S ||| 2 ^ j = S2 at *
      generalize ((2 ^ j : Nat) : Int) = J2 at *
      generalize 2 ^ n = N at *
      have l1 : S < U.length := by omega
      have l2 : S2 < U.length := by omega
      obtain ⟨_, p1⟩ := List.getElem?_eq_some_iff.1 p1
      obtain ⟨_, p2⟩ := List.getElem?_eq_some_iff.1 p2
      rw [lpB_eq]
      simp (maxSteps := 1000000) (disch := first | omega | decide | assumption | simp [scal]) [lenA_sl lk_22, lenA_sl lk_24, o_indexAddrS es_24, sz_3, loadA_eq ia_3, e0, e1, a1, s1, s2, l1, l2, hS, h2, p1, p2, ul, w1, hwrap, this]
end
end Go.Proofs.Ytfccmddkblbeoaa.rk
namespace Go.Proofs.Ytfccmddkblbeoaa.rk
open Go.GE
set_option linter.unusedVariables false
set_option linter.unusedSimpArgs false
set_option linter.unusedSectionVars false
set_option maxRecDepth 100000
set_option maxHeartbeats 4000000
attribute [local simp] runOps_nil runOps_cons runOpsF_nil runOpsF_cons fstS_some fstF_some opStep_eq want_none oStep_true oStep_false fin_pure fin_read fin_alloc fin_write storeB wrN cellV addWr o_move o_assign o_pick o_alloc o_box o_load o_store o_nilCheck o_bin o_un o_extract o_callV o_callB o_callI callV_f callV_y callV_fc o_makeFunc partsA Instr.fill builtin_len builtin_max2 bin_add bin_sub bin_mul bin_quo bin_rem bin_lss bin_leq bin_gtr bin_geq bin_eql bin_neq un_neg un_not bin_shr bin_shl wrap_u64_id opd opds optAll putO nbeq nblt constOk isC ops sub cl cr co bodyOf thenS_normal thenS_ret thenS_exit thenS_goto afterN_normal afterN_ret afterN_exit afterN_goto condS_true condS_false blockS_normal blockS_ret blockS_exit blockS_goto headS normS normK_eq fixS_nil fixS_cons fix1 fixV emptyB keepO_nil keepO_cons roundC_normal roundC_exit roundC_ret roundC_goto sweep_eq sweepD rnm pickR pickW rootsB ptrT renT ptrFn renFn ptrB_flat ptrB_non renB_flat renB_non plainS_some drawS_some fpsOk disj unord range' dropTo enumT undef wrap_i64_id Value.cells mkCells ptrTo scal cellsAt rdN endS_ret resultsA Option.bind_some tupV finish reachN dep ptrL_eq ptrL renL_eq renL ptrV_bool ptrV_int ptrV_string ptrV_nilFunc ptrV_nilIface ptrV_nilPtr ptrV_ptr ptrV_nilSl ptrV_sl ptrV_iface ptrV_agg ptrV_tuple ptrV_func renV_bool renV_int renV_string renV_nilFunc renV_nilIface renV_nilPtr renV_ptr renV_nilSl renV_sl renV_iface renV_agg renV_tuple renV_func gotoS_goto gotoS_normal gotoS_exit gotoS_ret skip_seq sliceE bnd bndHi intOf optOpd keepT_nil keepT_cons keepC_t keepC_f lk_nil lk_cons lkC_t lkC_f has_nil has_cons hasC_t hasC_f rep_nil rep_cons repC_t repC_f put_eq putC_t putC_f mem_nil mem_cons memC_t memC_f idx_nil idx_cons idxC_t idxC_f reach_nil reachP_cons reachQ_t reachQ_f ptrB_dead renB_dead ins_eq
attribute [local simp] n62_1s n62_3s n62_5s n62_8s n62_13s n62_15s n62_16s n62_14s n62_12s n62_20s n62_25s n62_27s n62_28s n62_26s n62_24s n62_32s n62_34s n62_35s n62_33s n62_31s n62_30s n62_36s n62_29s n62_23s n62_22s n62_22g n62_21s n62_19s n62_18s n62_37s n62_17s n62_11s n62_10s n62_10g n62_9s n62_7s n62_39s n62_40s n62_38s n62_6s n62_4s n62_2s n62_0s Try.f62
theorem cnt_pos {n S : Nat} (h : S + 1 < 2 ^ n) : 0 < cntU n S := by
  rcases Nat.eq_zero_or_pos (cntU n S) with h0 | h0
  · have := all_bits (show S < 2 ^ n by omega) h0
    omega
  · exact h0
section
variable (off n c : Nat) {cs : List Value} {own : Bool} {nx : Nat → Nat → Bool} (A B : Int)
theorem l62 (hx : NxOK nx n A B (sl 0 off n c) (.cells cs 2 true own)) (hn : n ≤ 12) : ∀ (s : Nat) (g : Nat → Nat), s < 2 ^ n → (∀ x, s ≤ x → x < 2 ^ n → g x = gR nx n x) → (∀ x, x < s → g x = 0) →
    lpB Try.prog LL ⟨62, 52, 1, none⟩ n62_10 n62_11 ⟨[(0, sl 0 off n c), (1, iv A), (2, iv B), (7, sl 1 0 (2 ^ n) (2 ^ n)), (8, iv ((s : Int) - 1))], [.cells cs 2 true own, tb g (2 ^ n)], []⟩ =
      some (.exit 0, ⟨[(7, sl 1 0 (2 ^ n) (2 ^ n))], [.cells cs 2 true own, tb (gR nx n) (2 ^ n)], []⟩) := by
  intro s
  induction s with
  | zero =>
    intro g hs hg h0
    have e : tL g (2 ^ n) = tL (gR nx n) (2 ^ n) := tL_congr fun x hx => hg x (by omega) hx
    simp only [tb, e]
    generalize tL (gR nx n) (2 ^ n) = U
    generalize 2 ^ n = N at *
    rw [show ((0 : Nat) : Int) - 1 = -1 from rfl]
    rw [lpB_eq]
    simp (maxSteps := 1000000) (disch := first | omega | decide | assumption | simp [scal]) [lenA_sl lk_22, lenA_sl lk_24, o_indexAddrS es_24, sz_3, loadA_eq ia_3]
  | succ s ih =>
    intro g hs hg h0
    have hp := cnt_pos (n := n) (S := s) (by omega)
    obtain ⟨k, hk⟩ : ∃ k, cntU n s = k + 1 := ⟨cntU n s - 1, by omega⟩
    have hkn : k + 1 ≤ n := by have := cntU_le (n := n) (M := s); omega
    have hpw := pow_le12 hn (show k ≤ 12 by omega)
    have hN2 : 2 ^ n ≤ 4096 := by have := Nat.pow_le_pow_right (n := 2) (by decide) hn; omega
    have hnp : n * n ^ k ≤ 12 * 8916100448256 := Nat.mul_le_mul hn hpw
    have inn := l62i off n c (own := own) A B hx hn s k (by omega) hk g (fun x h1 h2 => hg x (by omega) h2) n 0 0 (by omega) (by omega)
    have hv : cS (cF nx n k s) n 0 0 = gR nx n s := by unfold gR; rw [hk]; rfl
    rw [hv] at inn
    have e0 : tL (up g s 0) (2 ^ n) = tL g (2 ^ n) := tL_congr fun x hx => by
      unfold up
      split
      · rename_i h; subst h; exact (h0 _ (by omega)).symm
      · rfl
    have this := ih (up g s (gR nx n s)) (by omega) (fun x h1 h2 => by
      by_cases hxs : x = s
      · subst hxs; exact up_self
      · rw [up_other hxs]; exact hg x (by omega) h2) (fun x h1 => by rw [up_other (by omega)]; exact h0 x (by omega))
    simp only [tb, e0, Int.natCast_zero] at inn this ⊢
    rw [show ((s + 1 : Nat) : Int) - 1 = (s : Int) by omega]
    clear ih hg h0 hx e0 hv hk hp
    generalize tL (up g s (gR nx n s)) (2 ^ n) = U1 at *
    generalize tL (gR nx n) (2 ^ n) = U2 at *
    generalize tL g (2 ^ n) = U at *
    generalize 2 ^ n = N at *
    have hs0 : (0 : Int) ≤ s := by omega
    rw [lpB_eq]
    simp (maxSteps := 1000000) (disch := first | omega | decide | assumption | simp [scal]) [lenA_sl lk_22, lenA_sl lk_24, o_indexAddrS es_24, sz_3, loadA_eq ia_3, hs0, inn, this]
theorem r62 (hx : NxOK nx n A B (sl 0 off n c) (.cells cs 2 true own)) (hn : n ≤ 12) : LL.run 62 [sl 0 off n c, iv A, iv B] [.cells cs 2 true own] = some ⟨sl 1 0 (2 ^ n) (2 ^ n), [tb (gR nx n) (2 ^ n)], []⟩ := by
  refine go (by decide) ?_
  have hN : 1 ≤ 2 ^ n := Nat.two_pow_pos n
  have hN2 : 2 ^ n ≤ 4096 := by have := Nat.pow_le_pow_right (n := 2) (by decide) hn; omega
  have this := l62 off n c (own := own) A B hx hn (2 ^ n - 1) (up (fun _ => 0) (2 ^ n - 1) 1) (by omega) (fun x h1 h2 => by
    obtain rfl : x = 2 ^ n - 1 := by omega
    rw [up_self]
    unfold gR
    rw [cntU_all n (Nat.le_refl _)]
    rfl) (fun x h => up_other (by omega))
  have s1 := shl_powi (J := n) (by omega)
  have u1 := tL_set (g := fun _ => 0) (N := 2 ^ n) (S := 2 ^ n - 1) (v := 1)
  have ul := tL_len (g := fun _ => 0) (N := 2 ^ n)
  have z1 := tL_zero (N := 2 ^ n)
  simp only [tb] at this ⊢
  clear hx
  rw [show ((2 ^ n - 1 : Nat) : Int) - 1 = ((2 ^ n : Nat) : Int) - 2 by omega] at this
  simp only [Int.natCast_one] at u1
  generalize tL (up (fun _ => 0) (2 ^ n - 1) 1) (2 ^ n) = U1 at *
  generalize tL (gR nx n) (2 ^ n) = U2 at *
  generalize tL (fun _ => 0) (2 ^ n) = U at *
  generalize 2 ^ n = N at *
  have m0 : (N : Int) * 8 ≤ 70368744177664 := by omega
  have m1 : (N : Int) ≤ 70368744177664 := by omega
  have l1 : N - 1 < U.length := by omega
  have t1 : ((N : Int) - 1).toNat = N - 1 := by omega
  have t2 : (0 : Int) ≤ (N : Int) - 1 := by omega
  have t3 : (N : Int) - 1 < N := by omega
  have t4 : (1 : Int) ≤ N := by omega
  have t5 : N - 1 < N := by omega
  rw [run62 _ _ _ (by simp)]
  simp (maxSteps := 1000000) (disch := first | omega | decide | assumption | simp [scal]) [lenA_sl lk_22, lenA_sl lk_24, o_indexAddrS es_24, sz_3, loadA_eq ia_3, s1, mk24, m0, m1, z1, ul, l1, t1, t2, t3, t4, t5, u1, this]
end
end Go.Proofs.Ytfccmddkblbeoaa.rk
namespace Go.Proofs.Ytfccmddkblbeoaa.rk
open Go.GE
set_option linter.unusedVariables false
set_option linter.unusedSimpArgs false
set_option linter.unusedSectionVars false
set_option maxRecDepth 100000
set_option maxHeartbeats 4000000
def fN (nx : Nat → Nat → Bool) (n M : Nat) (i : Nat) : Nat := cond (nx M i) (gR nx n (M ||| 2 ^ i)) 0
theorem gR_le {nx : Nat → Nat → Bool} {n M : Nat} (hn : n ≤ 12) : gR nx n M ≤ 8916100448256 := by
  unfold gR
  have h1 := cR_le (nx := nx) (n := n) (cntU n M) M
  have h2 := cntU_le (n := n) (M := M)
  have h3 := pow_le12 hn (show cntU n M ≤ 12 by omega)
  omega
end Go.Proofs.Ytfccmddkblbeoaa.rk
namespace Go.Proofs.Ytfccmddkblbeoaa.rk
open Go.GE
set_option linter.unusedVariables false
set_option linter.unusedSimpArgs false
set_option linter.unusedSectionVars false
set_option maxRecDepth 100000
set_option maxHeartbeats 4000000
attribute [local simp] runOps_nil runOps_cons runOpsF_nil runOpsF_cons fstS_some fstF_some opStep_eq want_none oStep_true oStep_false fin_pure fin_read fin_alloc fin_write storeB wrN cellV addWr o_move o_assign o_pick o_alloc o_box o_load o_store o_nilCheck o_bin o_un o_extract o_callV o_callB o_callI callV_f callV_y callV_fc o_makeFunc partsA Instr.fill builtin_len builtin_max2 bin_add bin_sub bin_mul bin_quo bin_rem bin_lss bin_leq bin_gtr bin_geq bin_eql bin_neq un_neg un_not bin_shr bin_shl wrap_u64_id opd opds optAll putO nbeq nblt constOk isC ops sub cl cr co bodyOf thenS_normal thenS_ret thenS_exit thenS_goto afterN_normal afterN_ret afterN_exit afterN_goto condS_true condS_false blockS_normal blockS_ret blockS_exit blockS_goto headS normS normK_eq fixS_nil fixS_cons fix1 fixV emptyB keepO_nil keepO_cons roundC_normal roundC_exit roundC_ret roundC_goto sweep_eq sweepD rnm pickR pickW rootsB ptrT renT ptrFn renFn ptrB_flat ptrB_non renB_flat renB_non plainS_some drawS_some fpsOk disj unord range' dropTo enumT undef wrap_i64_id Value.cells mkCells ptrTo scal cellsAt rdN endS_ret resultsA Option.bind_some tupV finish reachN dep ptrL_eq ptrL renL_eq renL ptrV_bool ptrV_int ptrV_string ptrV_nilFunc ptrV_nilIface ptrV_nilPtr ptrV_ptr ptrV_nilSl ptrV_sl ptrV_iface ptrV_agg ptrV_tuple ptrV_func renV_bool renV_int renV_string renV_nilFunc renV_nilIface renV_nilPtr renV_ptr renV_nilSl renV_sl renV_iface renV_agg renV_tuple renV_func gotoS_goto gotoS_normal gotoS_exit gotoS_ret skip_seq sliceE bnd bndHi intOf optOpd keepT_nil keepT_cons keepC_t keepC_f lk_nil lk_cons lkC_t lkC_f has_nil has_cons hasC_t hasC_f rep_nil rep_cons repC_t repC_f put_eq putC_t putC_f mem_nil mem_cons memC_t memC_f idx_nil idx_cons idxC_t idxC_f reach_nil reachP_cons reachQ_t reachQ_f ptrB_dead renB_dead ins_eq
attribute [local simp] n61_1s n61_3s n61_6s n61_8s n61_9s n61_7s n61_5s n61_11s n61_12s n61_10s n61_4s n61_2s n61_0s Try.f61
section
variable (b off n c : Nat) {cs : List Value} {own : Bool} {l : Nat → Int × Int} {h : List Blk} (hb : h[b]? = some (.cells cs 2 true own)) (hc : SpC cs off n l)
include hb hc
theorem k61 (hn : n ≤ 60) : callH LL 61 [sl b off n c] h = some ⟨iv (cntE l n), h, [b], []⟩ := by
  refine callH_1 rfl hb noIdB_flat (args' := [sl 0 off n c]) (by simp [renV, dep, optAll, idx, nbeq]) (go (by decide) ?_) (fun _ => rfl)
  have a := fun bx => k50 0 off n c (h := .cells cs 2 true own :: bx) rfl hc hn
  rw [run61 _ _ _ (by simp)]
  unfold cntE
  by_cases h1 : chkS l n = 0
  · rw [if_pos h1]
    rw [h1] at a
    by_cases h2 : 12 < n
    · have h2' : (12 : Int) < n := by omega
      rw [if_pos h2]
      simp (maxSteps := 1000000) (disch := first | omega | decide | assumption | simp [scal]) [lenA_sl lk_22, want_some q61_6g2, a, h2, h2']
    · have h2' : ¬ (12 : Int) < n := by omega
      rw [if_neg h2]
      simp (maxSteps := 1000000) (disch := first | omega | decide | assumption | simp [scal]) [lenA_sl lk_22, want_some q61_6g2, a, h2, h2']
  · rw [if_neg h1]
    simp (maxSteps := 1000000) (disch := first | omega | decide | assumption | simp [scal]) [lenA_sl lk_22, want_some q61_6g2, a, h1]
end
theorem nx_ok {off n c : Nat} {cs : List Value} {own : Bool} {l : Nat → Int × Int} (hc : SpC cs off n l) (hn : n ≤ 12) : NxOK (nxB l n) n (-1) (-1) (sl 0 off n c) (.cells cs 2 true own) := by
  refine ⟨fun M i h => ?_, fun M i bx hM hi => k63 0 off n c (h := .cells cs 2 true own :: bx) rfl hc (by omega) M i hM hi⟩
  unfold nxB at h
  simp only [Bool.and_eq_true, Bool.not_eq_true'] at h
  exact h.1
section
variable (b off n c : Nat) {cs : List Value} {own : Bool} {l : Nat → Int × Int} {h : List Blk} (hb : h[b]? = some (.cells cs 2 true own)) (hc : SpC cs off n l)
include hb hc
theorem k62 (hn : n ≤ 12) : callH LL 62 [sl b off n c, iv (-1), iv (-1)] h = some ⟨sl h.length 0 (2 ^ n) (2 ^ n), h ++ [tb (gR (nxB l n) n) (2 ^ n)], [b], []⟩ := by
  have hr := r62 off n c (own := own) (-1) (-1) (nx_ok hc hn) hn
  exact callN_1 rfl hb noIdB_flat (args' := [sl 0 off n c, iv (-1), iv (-1)]) (by simp [renV, dep, optAll, idx, nbeq]) hr (by intro blk hb; simp only [List.mem_singleton] at hb; subst hb; exact noIdB_flat) (by simp [renV, dep, optAll])
end
end Go.Proofs.Ytfccmddkblbeoaa.rk
namespace Go.Proofs.Ytfccmddkblbeoaa.rk
open Go.GE
set_option linter.unusedVariables false
set_option linter.unusedSimpArgs false
set_option linter.unusedSectionVars false
set_option maxRecDepth 100000
set_option maxHeartbeats 4000000
theorem cS_add {f : Nat → Nat} : ∀ k i a, cS f k i a = a + cS f k i 0 := by
  intro k
  induction k with
  | zero => intro i a; simp [cS]
  | succ k ih => intro i a; simp only [cS]; rw [ih (i + 1) (a + f i), ih (i + 1) (0 + f i)]; omega
theorem cS_congr {f g : Nat → Nat} : ∀ k i a, (∀ j, i ≤ j → j < i + k → f j = g j) → cS f k i a = cS g k i a := by
  intro k
  induction k with
  | zero => intro i a _; rfl
  | succ k ih =>
    intro i a h
    simp only [cS]
    rw [h i (by omega) (by omega)]
    exact ih _ _ fun j h1 h2 => h j (by omega) (by omega)
theorem gR_sum {nx : Nat → Nat → Bool} (hnx : ∀ M i, nx M i = true → M.testBit i = false) {n M q : Nat} (h : cntU n M = q + 1) : gR nx n M = cS (fN nx n M) n 0 0 := by
  have e : gR nx n M = cS (cF nx n q M) n 0 0 := by unfold gR; rw [h]; rfl
  rw [e]
  refine cS_congr n 0 0 fun j _ hj => ?_
  unfold cF fN
  cases hx : nx M j
  · rfl
  · have := cntU_lt (hnx M j hx) n (by omega)
    simp only [cond_true]
    unfold gR
    rw [show cntU n (M ||| 2 ^ j) = q by omega]
theorem nxB_bit {l : Nat → Int × Int} {n M i : Nat} (h : nxB l n M i = true) : M.testBit i = false := by
  unfold nxB at h
  simp only [Bool.and_eq_true, Bool.not_eq_true'] at h
  exact h.1
section
variable (off n c : Nat) {cs : List Value} {own : Bool} {l : Nat → Int × Int}
abbrev LA (cs : List Value) (own : Bool) (es eb : List (Nat × Nat)) (rest : List Blk) : List Blk := .cells cs 2 true own :: .cells [sl 0 off n c, pp 2, pp 7] 1 false true :: .cells [.map (some 3), .func (.func 80) #[] #[pp 4, pp 5, pp 6]] 1 false true :: fmB es ::
  .cells [sl 0 off n c] 1 false true :: mayB :: .cells [pp 1] 1 false true :: .cells [.map (some 8), .func (.func 81) #[] #[pp 4, pp 6]] 1 false true :: fmB eb :: rest
end
end Go.Proofs.Ytfccmddkblbeoaa.rk
namespace Go.Proofs.Ytfccmddkblbeoaa.rk
open Go.GE
set_option linter.unusedVariables false
set_option linter.unusedSimpArgs false
set_option linter.unusedSectionVars false
set_option maxRecDepth 100000
set_option maxHeartbeats 4000000
theorem gR_zero {nx : Nat → Nat → Bool} {n : Nat} : gR nx n 0 = cR nx n n 0 := by unfold gR; rw [cntU_zero]
end Go.Proofs.Ytfccmddkblbeoaa.rk
namespace Go.Proofs.Ytfccmddkblbeoaa.rk
open Go.GE
set_option linter.unusedVariables false
set_option linter.unusedSimpArgs false
set_option linter.unusedSectionVars false
set_option maxRecDepth 100000
set_option maxHeartbeats 4000000
attribute [local simp] runOps_nil runOps_cons runOpsF_nil runOpsF_cons fstS_some fstF_some opStep_eq want_none oStep_true oStep_false fin_pure fin_read fin_alloc fin_write storeB wrN cellV addWr o_move o_assign o_pick o_alloc o_box o_load o_store o_nilCheck o_bin o_un o_extract o_callV o_callB o_callI callV_f callV_y callV_fc o_makeFunc partsA Instr.fill builtin_len builtin_max2 bin_add bin_sub bin_mul bin_quo bin_rem bin_lss bin_leq bin_gtr bin_geq bin_eql bin_neq un_neg un_not bin_shr bin_shl wrap_u64_id opd opds optAll putO nbeq nblt constOk isC ops sub cl cr co bodyOf thenS_normal thenS_ret thenS_exit thenS_goto afterN_normal afterN_ret afterN_exit afterN_goto condS_true condS_false blockS_normal blockS_ret blockS_exit blockS_goto headS normS normK_eq fixS_nil fixS_cons fix1 fixV emptyB keepO_nil keepO_cons roundC_normal roundC_exit roundC_ret roundC_goto sweep_eq sweepD rnm pickR pickW rootsB ptrT renT ptrFn renFn ptrB_flat ptrB_non renB_flat renB_non plainS_some drawS_some fpsOk disj unord range' dropTo enumT undef wrap_i64_id Value.cells mkCells ptrTo scal cellsAt rdN endS_ret resultsA Option.bind_some tupV finish reachN dep ptrL_eq ptrL renL_eq renL ptrV_bool ptrV_int ptrV_string ptrV_nilFunc ptrV_nilIface ptrV_nilPtr ptrV_ptr ptrV_nilSl ptrV_sl ptrV_iface ptrV_agg ptrV_tuple ptrV_func renV_bool renV_int renV_string renV_nilFunc renV_nilIface renV_nilPtr renV_ptr renV_nilSl renV_sl renV_iface renV_agg renV_tuple renV_func gotoS_goto gotoS_normal gotoS_exit gotoS_ret skip_seq sliceE bnd bndHi intOf optOpd keepT_nil keepT_cons keepC_t keepC_f lk_nil lk_cons lkC_t lkC_f has_nil has_cons hasC_t hasC_f rep_nil rep_cons repC_t repC_f put_eq putC_t putC_f mem_nil mem_cons memC_t memC_f idx_nil idx_cons idxC_t idxC_f reach_nil reachP_cons reachQ_t reachQ_f ptrB_dead renB_dead ins_eq
attribute [local simp] n81_1s n81_3s n81_6s n81_10s n81_13s n81_14s n81_12s n81_18s n81_20s n81_22s n81_24s n81_25s n81_23s n81_21s n81_19s n81_17s n81_16s n81_26s n81_15s n81_11s n81_9s n81_8s n81_8g n81_7s n81_5s n81_28s n81_29s n81_27s n81_4s n81_2s n81_0s Try.f81
/-- a set without a day -/
def adn (M j : Nat) : Nat := M &&& (2 ^ 32 - (2 ^ j + 1))
theorem adn_bit {M j i : Nat} (hj : j < 32) (hM : M < 2 ^ 32) : (adn M j).testBit i = (M.testBit i && !decide (j = i)) := by
  unfold adn
  rw [Nat.testBit_and, Nat.testBit_two_pow_sub_succ (Nat.pow_lt_pow_right (by decide) hj), Nat.testBit_two_pow]
  by_cases hi : i < 32
  · simp [hi]
  · rw [Nat.testBit_lt_two_pow (Nat.lt_of_lt_of_le hM (Nat.pow_le_pow_right (by decide) (by omega)))]; simp
theorem adn_le {M j : Nat} : adn M j ≤ M := Nat.and_le_left
theorem adn_or {M j : Nat} (hj : j < 32) (hM : M < 2 ^ 32) (h : M.testBit j = true) : adn M j ||| 2 ^ j = M := by
  apply Nat.eq_of_testBit_eq
  intro i
  rw [bit_or, adn_bit hj hM]
  by_cases hij : j = i
  · subst hij; simp [h]
  · simp [hij]
theorem adn_off {M j : Nat} (hj : j < 32) (hM : M < 2 ^ 32) : (adn M j).testBit j = false := by rw [adn_bit hj hM]; simp
theorem bin_andnw {P : Program} {t : TypeId} {c : Bool} {w j : Nat} (h : w < 2 ^ 32) (hj : j < 32) : binA P .andNot t c (.int .u32 (w : Int)) (.int .u32 ((2 ^ j : Nat) : Int)) = some (.int .u32 ((adn w j : Nat) : Int)) := by
  have hp : 2 ^ j < 2 ^ 32 := Nat.pow_lt_pow_right (by decide) hj
  have hl : adn w j < 2 ^ 32 := Nat.lt_of_le_of_lt adn_le h
  have e : (BitVec.ofInt 32 (w : Int) &&& ~~~ BitVec.ofInt 32 ((2 ^ j : Nat) : Int)).toNat = adn w j := by
    rw [BitVec.ofInt_natCast, BitVec.ofInt_natCast, BitVec.toNat_and, BitVec.toNat_not, BitVec.toNat_ofNat, BitVec.toNat_ofNat, Nat.mod_eq_of_lt h, Nat.mod_eq_of_lt hp]
    unfold adn
    congr 1
    omega
  have e' : IntKind.u32.wrap ((BitVec.ofInt 32 (w : Int) &&& ~~~ BitVec.ofInt 32 ((2 ^ j : Nat) : Int)).toNat : Int) = ((adn w j : Nat) : Int) := by rw [e]; exact wrap_u32 hl
  show some (Value.int .u32 (IntKind.u32.wrap ((BitVec.ofInt 32 (w : Int) &&& ~~~ BitVec.ofInt 32 ((2 ^ j : Nat) : Int)).toNat : Int))) = _
  rw [e']
def cB (nx : Nat → Nat → Bool) (n : Nat) : Nat → Nat → Nat
  | 0, _ => 1
  | k + 1, M => cS (fun i => cond (M.testBit i && nx (adn M i) i) (cB nx n k (adn M i)) 0) n 0 0
def bF (nx : Nat → Nat → Bool) (n k M : Nat) : Nat → Nat := fun i => cond (M.testBit i && nx (adn M i) i) (cB nx n k (adn M i)) 0
def gB (nx : Nat → Nat → Bool) (n M : Nat) : Nat := cB nx n (n - cntU n M) M
theorem cB_le {nx : Nat → Nat → Bool} {n : Nat} : ∀ k M, cB nx n k M ≤ n ^ k := by
  intro k
  induction k with
  | zero => intro M; simp [cB]
  | succ k ih =>
    intro M
    have := cS_le (f := bF nx n k M) (B := n ^ k) (fun i => by
      unfold bF
      cases (M.testBit i && nx (adn M i) i)
      · exact Nat.zero_le _
      · exact ih _) n 0 0
    simp only [cB]
    rw [Nat.pow_succ, Nat.mul_comm]
    unfold bF at this
    omega
theorem gB_le {nx : Nat → Nat → Bool} {n M : Nat} (hn : n ≤ 12) : gB nx n M ≤ 8916100448256 := by
  unfold gB
  have h1 := cB_le (nx := nx) (n := n) (n - cntU n M) M
  have h3 := pow_le12 hn (show n - cntU n M ≤ 12 by omega)
  omega
theorem cntU_full {M : Nat} : ∀ n, cntU n M = n → ∀ i, i < n → M.testBit i = false := by
  intro n
  induction n with
  | zero => intro _ i hi; omega
  | succ n ih =>
    intro h i hi
    have hl := cntU_le (n := n) (M := M)
    simp only [cntU] at h
    cases hb : M.testBit n
    · rw [hb] at h
      simp only [Bool.false_eq_true, if_false] at h
      by_cases e : i = n
      · subst e; exact hb
      · exact ih (by omega) i (by omega)
    · rw [hb] at h
      simp at h
      omega
theorem none_bits {n M : Nat} (hM : M < 2 ^ n) (h : cntU n M = n) : M = 0 := by
  apply Nat.eq_of_testBit_eq
  intro i
  rw [Nat.zero_testBit]
  by_cases hi : i < n
  · exact cntU_full n h i hi
  · exact Nat.testBit_lt_two_pow (Nat.lt_of_lt_of_le hM (Nat.pow_le_pow_right (by decide) (by omega)))
theorem cntU_adn {n M j : Nat} (hj : j < n) (hn : n ≤ 12) (hM : M < 2 ^ 32) (h : M.testBit j = true) : cntU n (adn M j) = cntU n M + 1 := by
  have := cntU_lt (adn_off (show j < 32 by omega) hM) n hj
  rw [adn_or (by omega) hM h] at this
  omega
def InvB (nx : Nat → Nat → Bool) (n : Nat) (eb : List (Nat × Nat)) : Prop := (∀ p, p ∈ eb → p.1 < 2 ^ n ∧ p.2 = gB nx n p.1) ∧ ∃ p, p ∈ eb ∧ p.1 = 0
theorem InvB.upd {nx : Nat → Nat → Bool} {n : Nat} {eb : List (Nat × Nat)} (h : InvB nx n eb) {M : Nat} (hM : M < 2 ^ n) : InvB nx n (updE eb M (gB nx n M)) := by
  refine ⟨fun p hp => ?_, updE_key h.2⟩
  rcases updE_mem hp with hp | rfl
  · exact h.1 p hp
  · exact ⟨hM, rfl⟩
theorem invB0 {nx : Nat → Nat → Bool} {n : Nat} : InvB nx n [(0, 1)] := by
  refine ⟨fun p hp => ?_, (0, 1), by simp, rfl⟩
  simp only [List.mem_singleton] at hp
  subst hp
  refine ⟨Nat.two_pow_pos n, ?_⟩
  simp only [gB, cntU_zero, Nat.sub_self, cB]
section
variable (off n c : Nat) (cs : List Value) (own : Bool)
abbrev HB0 (es eb : List (Nat × Nat)) : List Blk := [.cells [.map (some 1), .func (.func 81) #[] #[pp 2, pp 4]] 1 false true, fmB eb, .cells [sl 3 off n c] 1 false true, .cells cs 2 true own, .cells [pp 5] 1 false true,
  .cells [sl 3 off n c, pp 6, pp 0] 1 false true, .cells [.map (some 7), .func (.func 80) #[] #[pp 2, pp 8, pp 4]] 1 false true, fmB es, mayB]
abbrev HBC (es eb : List (Nat × Nat)) : List Blk := [.cells [sl 1 off n c] 1 false true, .cells cs 2 true own, .cells [pp 3] 1 false true, .cells [sl 1 off n c, pp 4, pp 7] 1 false true,
  .cells [.map (some 5), .func (.func 80) #[] #[pp 0, pp 6, pp 2]] 1 false true, fmB es, mayB, .cells [.map (some 8), .func (.func 81) #[] #[pp 0, pp 2]] 1 false true, fmB eb]
theorem rchBC (es eb : List (Nat × Nat)) : reach (HBC off n c cs own es eb) 0 reachN [7] [] = [7, 8, 0, 1, 2, 3, 4, 5, 6] := by
  simp only [reachP_cons, nblt, nbeq, mem_nil, mem_cons, memC_t, memC_f, reachQ_f, reachQ_t, Bool.or_false, Bool.or_true, Bool.false_or, Bool.true_or, decide_false, decide_true, Nat.not_lt_zero, rootsB, List.getElem?_cons_succ, List.getElem?_cons_zero, ptrB_non, ptrB_flat, ptrL_eq, ptrL, ptrV_bool, ptrV_int, ptrV_string, ptrV_nilFunc, ptrV_nilIface, ptrV_nilPtr, ptrV_nilSl, ptrV_iface, ptrV_agg, ptrV_tuple, ptrV_func, ptrV_ptr, ptrV_sl, dep, ptrFn, List.nil_append, List.cons_append, List.append_nil, reach_nil, reachN, Nat.reduceEqDiff, Nat.reduceAdd, Nat.reduceSub, reduceCtorEq, Nat.reduceLT, Nat.lt_irrefl, List.flatMap_cons, List.flatMap_nil, optAll, renL_eq, renL, renB_flat, renB_non, renV_bool, renV_int, renV_string, renV_nilFunc, renV_nilIface, renV_nilPtr, renV_ptr, renV_nilSl, renV_sl, renV_iface, renV_agg, renV_tuple, renV_func, renFn, idx_nil, idx_cons, idxC_t, idxC_f, Option.map_some, Option.map_none, fm_ptr, ptrV_map]
theorem pickBC (es eb : List (Nat × Nat)) : optAll (pickB (HBC off n c cs own es eb) (idx [7, 8, 0, 1, 2, 3, 4, 5, 6])) [7, 8, 0, 1, 2, 3, 4, 5, 6] = some (HB0 off n c cs own es eb) := by
  simp (maxSteps := 1000000) (disch := first | omega | decide | assumption | simp [scal]) [pickB, renV_map, fm_ren]
theorem rchB0 (es eb : List (Nat × Nat)) : reach (HB0 off n c cs own es eb) 0 reachN [2, 4] [] = [2, 3, 4, 5, 6, 7, 8, 0, 1] := by
  simp only [reachP_cons, nblt, nbeq, mem_nil, mem_cons, memC_t, memC_f, reachQ_f, reachQ_t, Bool.or_false, Bool.or_true, Bool.false_or, Bool.true_or, decide_false, decide_true, Nat.not_lt_zero, rootsB, List.getElem?_cons_succ, List.getElem?_cons_zero, ptrB_non, ptrB_flat, ptrL_eq, ptrL, ptrV_bool, ptrV_int, ptrV_string, ptrV_nilFunc, ptrV_nilIface, ptrV_nilPtr, ptrV_nilSl, ptrV_iface, ptrV_agg, ptrV_tuple, ptrV_func, ptrV_ptr, ptrV_sl, dep, ptrFn, List.nil_append, List.cons_append, List.append_nil, reach_nil, reachN, Nat.reduceEqDiff, Nat.reduceAdd, Nat.reduceSub, reduceCtorEq, Nat.reduceLT, Nat.lt_irrefl, List.flatMap_cons, List.flatMap_nil, optAll, renL_eq, renL, renB_flat, renB_non, renV_bool, renV_int, renV_string, renV_nilFunc, renV_nilIface, renV_nilPtr, renV_ptr, renV_nilSl, renV_sl, renV_iface, renV_agg, renV_tuple, renV_func, renFn, idx_nil, idx_cons, idxC_t, idxC_f, Option.map_some, Option.map_none, fm_ptr, ptrV_map]
theorem pickB0 (es eb : List (Nat × Nat)) : optAll (pickB (HB0 off n c cs own es eb) (idx [2, 3, 4, 5, 6, 7, 8, 0, 1])) [2, 3, 4, 5, 6, 7, 8, 0, 1] = some (HBC off n c cs own es eb) := by
  simp (maxSteps := 1000000) (disch := first | omega | decide | assumption | simp [scal]) [pickB, renV_map, fm_ren]
theorem callB0 {es eb eb' : List (Nat × Nat)} {M v : Nat} {ws : List (Nat × Blk)} (h : LL.run 60 [pp 0, wv M] (HB0 off n c cs own es eb) = some ⟨iv v, [], ws⟩) (hw : (ws = [] ∧ eb' = eb) ∨ ws = [(1, fmB eb')]) :
    ∃ wr, ((wr = [] ∧ eb' = eb) ∨ wr = [8]) ∧ callH LL 60 [pp 7, wv M] (HBC off n c cs own es eb) = some ⟨iv v, HBC off n c cs own es eb', [7, 8, 0, 1, 2, 3, 4, 5, 6], wr⟩ := by
  rcases hw with ⟨rfl, rfl⟩ | rfl
  · exact ⟨[], .inl ⟨rfl, rfl⟩, callH_lit (by intro _; first | trivial | rfl) rfl (rchBC ..) rfl (pickBC ..) h (by simp [mergeB, renV_int, dep, optAll]) (by simp)⟩
  · exact ⟨[8], .inr rfl, callH_lit (by intro _; first | trivial | rfl) rfl (rchBC ..) rfl (pickBC ..) h (by simp [mergeB, renV_int, dep, optAll, fm_ren]) (by simp)⟩
end
section
variable (off n c : Nat) {cs : List Value} {own : Bool} {l : Nat → Int × Int}
def GetBOK (nx : Nat → Nat → Bool) (HH : List (Nat × Nat) → List (Nat × Nat) → List Blk) (n k : Nat) (es : List (Nat × Nat)) : Prop := ∀ eb M, InvB nx n eb → M < 2 ^ n → cntU n M + k = n →
  ∃ eb' ws, InvB nx n eb' ∧ ((ws = [] ∧ eb' = eb) ∨ ws = [(1, fmB eb')]) ∧ LL.run 60 [pp 0, wv M] (HH es eb) = some ⟨iv (cB nx n k M : Nat), [], ws⟩
theorem l81 (hc : SpC cs off n l) (hn : n ≤ 12) (es : List (Nat × Nat)) (k : Nat) (hget : GetBOK (nxB l n) (HB0 off n c cs own) n k es) (M : Nat) (hM : M < 2 ^ n) (hk : cntU n M + (k + 1) = n) :
    ∀ (q j a : Nat) (eb : List (Nat × Nat)) (wr : List Nat), j + q = n → InvB (nxB l n) n eb → (wr = [] ∨ wr = [8]) → a + q * n ^ k ≤ 1000000000000000 →
    ∃ eb' wr', InvB (nxB l n) n eb' ∧ ((wr' = wr ∧ eb' = eb) ∨ wr' = [8]) ∧
      lpB Try.prog LL ⟨81, 36, 9, none⟩ n81_8 n81_9 ⟨[(0, wv M), (1, pp 0), (2, pp 2), (5, iv a), (9, iv n), (10, iv j)], HBC off n c cs own es eb, wr⟩ =
      some (.exit 0, ⟨[(5, iv (cS (bF (nxB l n) n k M) q j a : Nat))], HBC off n c cs own es eb', wr'⟩) := by
  have hM32 : M < 2 ^ 32 := Nat.lt_of_lt_of_le hM (Nat.pow_le_pow_right (by decide) (by omega))
  intro q
  induction q with
  | zero =>
    intro j a eb wr hj hi hw hb
    obtain rfl : j = n := by omega
    refine ⟨eb, wr, hi, .inl ⟨rfl, rfl⟩, ?_⟩
    simp only [cS]
    rw [lpB_eq]
    rcases hw with rfl | rfl
    · simp (maxSteps := 1000000) (disch := first | omega | decide | assumption | simp [scal]) [loadA_eq ia_78, lenA_sl lk_78, loadA_eq ia_85, o_fieldAddr fa_90_2 (by decide), loadA_eq ia_88, want_some q81_22g3, fm_ptr, fm_ren, ptrV_map, renV_map]
    · simp (maxSteps := 1000000) (disch := first | omega | decide | assumption | simp [scal]) [loadA_eq ia_78, lenA_sl lk_78, loadA_eq ia_85, o_fieldAddr fa_90_2 (by decide), loadA_eq ia_88, want_some q81_22g3, fm_ptr, fm_ren, ptrV_map, renV_map]
  | succ q ih =>
    intro j a eb wr hj hi hw hb
    have e0 : j < n := by omega
    have e1 : (j : Int) < n := by omega
    have h2 : adn M j < 2 ^ n := Nat.lt_of_le_of_lt adn_le hM
    have h232 : adn M j < 2 ^ 32 := Nat.lt_of_le_of_lt adn_le hM32
    have a1 := fun b0 bx => k53 1 off n c (h := b0 :: .cells cs 2 true own :: bx) rfl hc (by omega) (adn M j) j h232 e0
    have a2 := k71 M j hM32 (by omega)
    have s1 := shl_poww (J := j) (by omega)
    have s2 := fun cc => @bin_andnw Try.prog 77 cc M j hM32 (by omega)
    rw [Nat.add_mul] at hb
    cases hh : (M.testBit j && nxB l n (adn M j) j)
    · have hf : bF (nxB l n) n k M j = 0 := by simp only [bF, hh, cond_false]
      obtain ⟨eb', wr', i1, i2, i3⟩ := ih (j + 1) (a + 0) eb wr (by omega) hi hw (by omega)
      refine ⟨eb', wr', i1, i2, ?_⟩
      simp only [cS, hf]
      simp only [cast1, Nat.add_zero] at i3 ⊢
      generalize cS (bF (nxB l n) n k M) q (j + 1) a = Z at *
      clear ih hget hf
      generalize nxB l n (adn M j) j = y at *
      generalize M.testBit j = x at *
      generalize adn M j = M2 at *
      generalize ((2 ^ j : Nat) : Int) = J2 at *
      rw [lpB_eq]
      cases x <;> cases y <;> (try (simp at hh; done)) <;> rcases hw with rfl | rfl
      · simp (maxSteps := 1000000) (disch := first | omega | decide | assumption | simp [scal]) [loadA_eq ia_78, lenA_sl lk_78, loadA_eq ia_85, o_fieldAddr fa_90_2 (by decide), loadA_eq ia_88, want_some q81_22g3, e0, e1, a1, a2, s1, s2, fm_ptr, fm_ren, ptrV_map, renV_map, i3]
      · simp (maxSteps := 1000000) (disch := first | omega | decide | assumption | simp [scal]) [loadA_eq ia_78, lenA_sl lk_78, loadA_eq ia_85, o_fieldAddr fa_90_2 (by decide), loadA_eq ia_88, want_some q81_22g3, e0, e1, a1, a2, s1, s2, fm_ptr, fm_ren, ptrV_map, renV_map, i3]
      · simp (maxSteps := 1000000) (disch := first | omega | decide | assumption | simp [scal]) [loadA_eq ia_78, lenA_sl lk_78, loadA_eq ia_85, o_fieldAddr fa_90_2 (by decide), loadA_eq ia_88, want_some q81_22g3, e0, e1, a1, a2, s1, s2, fm_ptr, fm_ren, ptrV_map, renV_map, i3]
      · simp (maxSteps := 1000000) (disch := first | omega | decide | assumption | simp [scal]) [loadA_eq ia_78, lenA_sl lk_78, loadA_eq ia_85, o_fieldAddr fa_90_2 (by decide), loadA_eq ia_88, want_some q81_22g3, e0, e1, a1, a2, s1, s2, fm_ptr, fm_ren, ptrV_map, renV_map, i3]
      · simp (maxSteps := 1000000) (disch := first | omega | decide | assumption | simp [scal]) [loadA_eq ia_78, lenA_sl lk_78, loadA_eq ia_85, o_fieldAddr fa_90_2 (by decide), loadA_eq ia_88, want_some q81_22g3, e0, e1, a1, a2, s1, s2, fm_ptr, fm_ren, ptrV_map, renV_map, i3]
      · simp (maxSteps := 1000000) (disch := first | omega | decide | assumption | simp [scal]) [loadA_eq ia_78, lenA_sl lk_78, loadA_eq ia_85, o_fieldAddr fa_90_2 (by decide), loadA_eq ia_88, want_some q81_22g3, e0, e1, a1, a2, s1, s2, fm_ptr, fm_ren, ptrV_map, renV_map, i3]
    · have hf : bF (nxB l n) n k M j = cB (nxB l n) n k (adn M j) := by simp only [bF, hh, cond_true]
      rw [Bool.and_eq_true] at hh
      obtain ⟨hx, hy⟩ := hh
      rw [hy] at a1
      rw [hx] at a2
      have hcn := cntU_adn e0 hn hM32 hx
      obtain ⟨eb1, ws, g1, g2, g3⟩ := hget eb (adn M j) hi h2 (by omega)
      obtain ⟨wr1, g4, g5⟩ := callB0 off n c cs own g3 g2
      have hv : cB (nxB l n) n k (adn M j) ≤ n ^ k := cB_le _ _
      simp only [cS, hf]
      generalize cB (nxB l n) n k (adn M j) = v at *
      generalize adn M j = M2 at *
      clear g3 hf h2 hcn
      have hwrap : IntKind.i64.wrap ((a : Int) + (v : Int)) = ((a + v : Nat) : Int) := by rw [wrap_i64_id (by omega) (by omega)]; rfl
      have go : ∀ wr2, (wr2 = [] ∨ wr2 = [8]) → ((wr2 = wr ∧ eb1 = eb) ∨ wr2 = [8]) → _ := fun wr2 x y => ih (j + 1) (a + v) eb1 wr2 (by omega) g1 x (by omega)
      clear ih hget
      generalize ((2 ^ j : Nat) : Int) = J2 at *
      rcases g4 with ⟨rfl, rfl⟩ | rfl
      · obtain ⟨eb', wr', i1, i2, i3⟩ := go wr hw (.inl ⟨rfl, rfl⟩)
        refine ⟨eb', wr', i1, i2, ?_⟩
        simp only [cast1] at i3 ⊢
        generalize cS (bF (nxB l n) n k M) q (j + 1) (a + v) = Z at *
        generalize ((a + v : Nat) : Int) = av at *
        rw [lpB_eq]
        rcases hw with rfl | rfl
        · simp (maxSteps := 1000000) (disch := first | omega | decide | assumption | simp [scal]) [loadA_eq ia_78, lenA_sl lk_78, loadA_eq ia_85, o_fieldAddr fa_90_2 (by decide), loadA_eq ia_88, want_some q81_22g3, e0, e1, a1, a2, s1, s2, g5, hwrap, fm_ptr, fm_ren, ptrV_map, renV_map, i3]
        · simp (maxSteps := 1000000) (disch := first | omega | decide | assumption | simp [scal]) [loadA_eq ia_78, lenA_sl lk_78, loadA_eq ia_85, o_fieldAddr fa_90_2 (by decide), loadA_eq ia_88, want_some q81_22g3, e0, e1, a1, a2, s1, s2, g5, hwrap, fm_ptr, fm_ren, ptrV_map, renV_map, i3]
      · obtain ⟨eb', wr', i1, i2, i3⟩ := go [8] (.inr rfl) (.inr rfl)
        refine ⟨eb', wr', i1, .inr (by rcases i2 with ⟨h1, _⟩ | h1 <;> exact h1), ?_⟩
        simp only [cast1] at i3 ⊢
        generalize cS (bF (nxB l n) n k M) q (j + 1) (a + v) = Z at *
        generalize ((a + v : Nat) : Int) = av at *
        rw [lpB_eq]
        rcases hw with rfl | rfl
        · simp (maxSteps := 1000000) (disch := first | omega | decide | assumption | simp [scal]) [loadA_eq ia_78, lenA_sl lk_78, loadA_eq ia_85, o_fieldAddr fa_90_2 (by decide), loadA_eq ia_88, want_some q81_22g3, e0, e1, a1, a2, s1, s2, g5, hwrap, fm_ptr, fm_ren, ptrV_map, renV_map, i3]
        · simp (maxSteps := 1000000) (disch := first | omega | decide | assumption | simp [scal]) [loadA_eq ia_78, lenA_sl lk_78, loadA_eq ia_85, o_fieldAddr fa_90_2 (by decide), loadA_eq ia_88, want_some q81_22g3, e0, e1, a1, a2, s1, s2, g5, hwrap, fm_ptr, fm_ren, ptrV_map, renV_map, i3]
end
end Go.Proofs.Ytfccmddkblbeoaa.rk
namespace Go.Proofs.Ytfccmddkblbeoaa.rk
open Go.GE
set_option linter.unusedVariables false
set_option linter.unusedSimpArgs false
set_option linter.unusedSectionVars false
set_option maxRecDepth 100000
set_option maxHeartbeats 4000000
attribute [local simp] runOps_nil runOps_cons runOpsF_nil runOpsF_cons fstS_some fstF_some opStep_eq want_none oStep_true oStep_false fin_pure fin_read fin_alloc fin_write storeB wrN cellV addWr o_move o_assign o_pick o_alloc o_box o_load o_store o_nilCheck o_bin o_un o_extract o_callV o_callB o_callI callV_f callV_y callV_fc o_makeFunc partsA Instr.fill builtin_len builtin_max2 bin_add bin_sub bin_mul bin_quo bin_rem bin_lss bin_leq bin_gtr bin_geq bin_eql bin_neq un_neg un_not bin_shr bin_shl wrap_u64_id opd opds optAll putO nbeq nblt constOk isC ops sub cl cr co bodyOf thenS_normal thenS_ret thenS_exit thenS_goto afterN_normal afterN_ret afterN_exit afterN_goto condS_true condS_false blockS_normal blockS_ret blockS_exit blockS_goto headS normS normK_eq fixS_nil fixS_cons fix1 fixV emptyB keepO_nil keepO_cons roundC_normal roundC_exit roundC_ret roundC_goto sweep_eq sweepD rnm pickR pickW rootsB ptrT renT ptrFn renFn ptrB_flat ptrB_non renB_flat renB_non plainS_some drawS_some fpsOk disj unord range' dropTo enumT undef wrap_i64_id Value.cells mkCells ptrTo scal cellsAt rdN endS_ret resultsA Option.bind_some tupV finish reachN dep ptrL_eq ptrL renL_eq renL ptrV_bool ptrV_int ptrV_string ptrV_nilFunc ptrV_nilIface ptrV_nilPtr ptrV_ptr ptrV_nilSl ptrV_sl ptrV_iface ptrV_agg ptrV_tuple ptrV_func renV_bool renV_int renV_string renV_nilFunc renV_nilIface renV_nilPtr renV_ptr renV_nilSl renV_sl renV_iface renV_agg renV_tuple renV_func gotoS_goto gotoS_normal gotoS_exit gotoS_ret skip_seq sliceE bnd bndHi intOf optOpd keepT_nil keepT_cons keepC_t keepC_f lk_nil lk_cons lkC_t lkC_f has_nil has_cons hasC_t hasC_f rep_nil rep_cons repC_t repC_f put_eq putC_t putC_f mem_nil mem_cons memC_t memC_f idx_nil idx_cons idxC_t idxC_f reach_nil reachP_cons reachQ_t reachQ_f ptrB_dead renB_dead ins_eq
attribute [local simp] n81_1s n81_3s n81_6s n81_10s n81_13s n81_14s n81_12s n81_18s n81_20s n81_22s n81_24s n81_25s n81_23s n81_21s n81_19s n81_17s n81_16s n81_26s n81_15s n81_11s n81_9s n81_8s n81_8g n81_7s n81_5s n81_28s n81_29s n81_27s n81_4s n81_2s n81_0s Try.f81 n60_1s n60_3s n60_6s n60_9s n60_10s n60_8s n60_11s n60_7s n60_5s n60_13s n60_14s n60_12s n60_4s n60_2s n60_0s Try.f60
section
variable (off n c : Nat) {cs : List Value} {own : Bool} {l : Nat → Int × Int}
theorem c81 (hc : SpC cs off n l) (hn : n ≤ 12) (es : List (Nat × Nat)) (k : Nat) (hget : GetBOK (nxB l n) (HB0 off n c cs own) n k es) (M : Nat) (hM : M < 2 ^ n) (hk : cntU n M + (k + 1) = n) (eb : List (Nat × Nat)) (hi : InvB (nxB l n) n eb) :
    ∃ eb' wr, InvB (nxB l n) n eb' ∧ ((wr = [] ∧ eb' = eb) ∨ wr = [1]) ∧ callH LL 81 [wv M, pp 2, pp 4] (HB0 off n c cs own es eb) = some ⟨iv (cB (nxB l n) n (k + 1) M : Nat), HB0 off n c cs own es eb', [2, 3, 4, 5, 6, 7, 8, 0, 1], wr⟩ := by
  have hp := pow_le12 hn (show k ≤ 12 by omega)
  have hnp : n * n ^ k ≤ 12 * 8916100448256 := Nat.mul_le_mul hn hp
  obtain ⟨eb', wr', i1, i2, i3⟩ := l81 off n c (own := own) hc hn es k hget M hM hk n 0 0 eb [] (by omega) hi (.inl rfl) (by omega)
  have hrun : LL.run 81 [wv M, pp 0, pp 2] (HBC off n c cs own es eb) = some ⟨iv (cB (nxB l n) n (k + 1) M : Nat), [], wr'.map fun b => (b, fmB eb')⟩ := by
    refine go (by decide) ?_
    rw [run81 _ _ _ (by simp)]
    have hR : cB (nxB l n) n (k + 1) M = cS (bF (nxB l n) n k M) n 0 0 := rfl
    rw [hR]
    generalize cS (bF (nxB l n) n k M) n 0 0 = Z at *
    clear hget
    simp only [Int.natCast_zero] at i3
    rcases i2 with ⟨rfl, rfl⟩ | rfl
    · simp (maxSteps := 1000000) (disch := first | omega | decide | assumption | simp [scal]) [loadA_eq ia_78, lenA_sl lk_78, loadA_eq ia_85, o_fieldAddr fa_90_2 (by decide), loadA_eq ia_88, want_some q81_22g3, i3, fm_ptr, fm_ren, ptrV_map, renV_map]
    · simp (maxSteps := 1000000) (disch := first | omega | decide | assumption | simp [scal]) [loadA_eq ia_78, lenA_sl lk_78, loadA_eq ia_85, o_fieldAddr fa_90_2 (by decide), loadA_eq ia_88, want_some q81_22g3, i3, fm_ptr, fm_ren, ptrV_map, renV_map]
  rcases i2 with ⟨rfl, rfl⟩ | rfl
  · exact ⟨eb', [], i1, .inl ⟨rfl, rfl⟩, callH_lit (by intro _; first | trivial | rfl) rfl (rchB0 ..) rfl (pickB0 ..) hrun (by simp [mergeB, renV_int, dep, optAll]) (by simp)⟩
  · exact ⟨eb', [1], i1, .inr rfl, callH_lit (by intro _; first | trivial | rfl) rfl (rchB0 ..) rfl (pickB0 ..) hrun (by simp [mergeB, renV_int, dep, optAll, fm_ren]) (by simp)⟩
theorem getB_ok (hc : SpC cs off n l) (hn : n ≤ 12) (es : List (Nat × Nat)) : ∀ k, GetBOK (nxB l n) (HB0 off n c cs own) n k es := by
  have hit : ∀ (eb : List (Nat × Nat)) (M i v : Nat), M < 2 ^ n → findA (wv M) (mE eb) 0 = some (some (i, iv v)) → LL.run 60 [pp 0, wv M] (HB0 off n c cs own es eb) = some ⟨iv v, [], []⟩ := by
    intro eb M i v hM hf
    have fL : lookM (HB0 off n c cs own es eb) 1 M = some ⟨.tuple #[iv v, .bool true], HB0 off n c cs own es eb, [1], []⟩ := look_hit rfl hf
    refine go (by decide) ?_
    rw [run60 _ _ _ (by simp)]
    simp (maxSteps := 1000000) (disch := first | omega | decide | assumption | simp [scal]) [o_fieldAddr fa_110_0 (by decide), loadA_eq ia_108, o_fieldAddr fa_110_1 (by decide), loadA_eq ia_91, o_look, look108, fL, fm_ptr, fm_ren, ptrV_map, renV_map]
  intro k
  induction k with
  | zero =>
    intro eb M hi hM hk
    rcases findA_mE (M := M) eb 0 with ⟨i, v, h1, h2⟩ | ⟨_, h2⟩
    · have hv := (hi.1 (M, v) (List.mem_of_getElem? h2)).2
      simp only [gB, show n - cntU n M = 0 by omega] at hv
      rw [Nat.zero_add] at h1
      refine ⟨eb, [], hi, .inl ⟨rfl, rfl⟩, ?_⟩
      rw [← hv]
      exact hit eb M i v hM h1
    · obtain ⟨p, hp, he⟩ := hi.2
      exact absurd (he.trans (none_bits hM (by omega)).symm) (h2 p hp)
  | succ k ih =>
    intro eb M hi hM hk
    have hkk : n - cntU n M = k + 1 := by omega
    rcases findA_mE (M := M) eb 0 with ⟨i, v, h1, h2⟩ | ⟨h1, h2⟩
    · have hv := (hi.1 (M, v) (List.mem_of_getElem? h2)).2
      simp only [gB, hkk] at hv
      rw [Nat.zero_add] at h1
      refine ⟨eb, [], hi, .inl ⟨rfl, rfl⟩, ?_⟩
      rw [← hv]
      exact hit eb M i v hM h1
    · obtain ⟨eb', wr, i1, i2, i3⟩ := c81 off n c (own := own) hc hn es k ih M hM hk eb hi
      have hu := i1.upd hM
      unfold gB at hu
      rw [hkk] at hu
      refine ⟨_, [(1, fmB (updE eb' M (cB (nxB l n) n (k + 1) M)))], hu, .inr rfl, ?_⟩
      have fL : lookM (HB0 off n c cs own es eb) 1 M = some ⟨.tuple #[iv 0, .bool false], HB0 off n c cs own es eb, [1], []⟩ := look_miss rfl h1
      generalize cB (nxB l n) n (k + 1) M = Z at *
      have fU : updM (HB0 off n c cs own es eb') 1 M (iv Z) = some ⟨undef, HB0 off n c cs own es (updE eb' M Z), [1], [1]⟩ := upd_eq rfl
      clear ih hu hit
      refine go (by decide) ?_
      rw [run60 _ _ _ (by simp)]
      rcases i2 with ⟨rfl, rfl⟩ | rfl
      · simp (maxSteps := 1000000) (disch := first | omega | decide | assumption | simp [scal]) [o_fieldAddr fa_110_0 (by decide), loadA_eq ia_108, o_fieldAddr fa_110_1 (by decide), loadA_eq ia_91, o_look, look108, fL, o_mapU, upd108, fU, i3, callV_fc, fm_ptr, fm_ren, ptrV_map, renV_map]
      · simp (maxSteps := 1000000) (disch := first | omega | decide | assumption | simp [scal]) [o_fieldAddr fa_110_0 (by decide), loadA_eq ia_108, o_fieldAddr fa_110_1 (by decide), loadA_eq ia_91, o_look, look108, fL, o_mapU, upd108, fU, i3, callV_fc, fm_ptr, fm_ren, ptrV_map, renV_map]
/-- a counter, as it is handed to 'groups' -/
abbrev LG (cs : List Value) (own : Bool) (es eb : List (Nat × Nat)) (rest : List Blk) : List Blk := .cells [sl 1 off n c, pp 2, pp 7] 1 false true :: .cells cs 2 true own :: .cells [.map (some 3), .func (.func 80) #[] #[pp 4, pp 5, pp 6]] 1 false true :: fmB es ::
  .cells [sl 1 off n c] 1 false true :: mayB :: .cells [pp 0] 1 false true :: .cells [.map (some 8), .func (.func 81) #[] #[pp 4, pp 6]] 1 false true :: fmB eb :: rest
theorem rchGB (es eb : List (Nat × Nat)) (rest : List Blk) : reach (LG off n c cs own es eb rest) 0 reachN [7] [] = [7, 8, 4, 1, 6, 0, 2, 3, 5] := by
  simp only [reachP_cons, nblt, nbeq, mem_nil, mem_cons, memC_t, memC_f, reachQ_f, reachQ_t, Bool.or_false, Bool.or_true, Bool.false_or, Bool.true_or, decide_false, decide_true, Nat.not_lt_zero, rootsB, List.getElem?_cons_succ, List.getElem?_cons_zero, ptrB_non, ptrB_flat, ptrL_eq, ptrL, ptrV_bool, ptrV_int, ptrV_string, ptrV_nilFunc, ptrV_nilIface, ptrV_nilPtr, ptrV_nilSl, ptrV_iface, ptrV_agg, ptrV_tuple, ptrV_func, ptrV_ptr, ptrV_sl, dep, ptrFn, List.nil_append, List.cons_append, List.append_nil, reach_nil, reachN, Nat.reduceEqDiff, Nat.reduceAdd, Nat.reduceSub, reduceCtorEq, Nat.reduceLT, Nat.lt_irrefl, List.flatMap_cons, List.flatMap_nil, optAll, renL_eq, renL, renB_flat, renB_non, renV_bool, renV_int, renV_string, renV_nilFunc, renV_nilIface, renV_nilPtr, renV_ptr, renV_nilSl, renV_sl, renV_iface, renV_agg, renV_tuple, renV_func, renFn, idx_nil, idx_cons, idxC_t, idxC_f, Option.map_some, Option.map_none, fm_ptr, ptrV_map]
theorem pickGB (es eb : List (Nat × Nat)) (rest : List Blk) : optAll (pickB (LG off n c cs own es eb rest) (idx [7, 8, 4, 1, 6, 0, 2, 3, 5])) [7, 8, 4, 1, 6, 0, 2, 3, 5] = some (HB0 off n c cs own es eb) := by
  simp (maxSteps := 1000000) (disch := first | omega | decide | assumption | simp [scal]) [pickB, renV_map, fm_ren]
theorem askGB (hc : SpC cs off n l) (hn : n ≤ 12) (es eb : List (Nat × Nat)) (rest : List Blk) (M : Nat) (hi : InvB (nxB l n) n eb) (hM : M < 2 ^ n) : ∃ eb' wr, InvB (nxB l n) n eb' ∧ ((wr = [] ∧ eb' = eb) ∨ wr = [8]) ∧
    callH LL 60 [pp 7, wv M] (LG off n c cs own es eb rest) = some ⟨iv (gB (nxB l n) n M : Nat), LG off n c cs own es eb' rest, [7, 8, 4, 1, 6, 0, 2, 3, 5], wr⟩ := by
  obtain ⟨eb', ws, i1, i2, i3⟩ := getB_ok off n c (own := own) hc hn es (n - cntU n M) eb M hi hM (by have := cntU_le (n := n) (M := M); omega)
  rcases i2 with ⟨rfl, rfl⟩ | rfl
  · exact ⟨eb', [], i1, .inl ⟨rfl, rfl⟩, callH_lit (by intro _; first | trivial | rfl) rfl (rchGB ..) rfl (pickGB ..) i3 (by simp [mergeB, renV_int, dep, optAll, gB]) (by simp)⟩
  · exact ⟨eb', [8], i1, .inr rfl, callH_lit (by intro _; first | trivial | rfl) rfl (rchGB ..) rfl (pickGB ..) i3 (by simp [mergeB, renV_int, dep, optAll, fm_ren, gB]) (by simp)⟩
end
end Go.Proofs.Ytfccmddkblbeoaa.rk
namespace Go.Proofs.Ytfccmddkblbeoaa.rk
open Go.GE
set_option linter.unusedVariables false
set_option linter.unusedSimpArgs false
set_option linter.unusedSectionVars false
set_option maxRecDepth 100000
set_option maxHeartbeats 4000000
attribute [local simp] runOps_nil runOps_cons runOpsF_nil runOpsF_cons fstS_some fstF_some opStep_eq want_none oStep_true oStep_false fin_pure fin_read fin_alloc fin_write storeB wrN cellV addWr o_move o_assign o_pick o_alloc o_box o_load o_store o_nilCheck o_bin o_un o_extract o_callV o_callB o_callI callV_f callV_y callV_fc o_makeFunc partsA Instr.fill builtin_len builtin_max2 bin_add bin_sub bin_mul bin_quo bin_rem bin_lss bin_leq bin_gtr bin_geq bin_eql bin_neq un_neg un_not bin_shr bin_shl wrap_u64_id opd opds optAll putO nbeq nblt constOk isC ops sub cl cr co bodyOf thenS_normal thenS_ret thenS_exit thenS_goto afterN_normal afterN_ret afterN_exit afterN_goto condS_true condS_false blockS_normal blockS_ret blockS_exit blockS_goto headS normS normK_eq fixS_nil fixS_cons fix1 fixV emptyB keepO_nil keepO_cons roundC_normal roundC_exit roundC_ret roundC_goto sweep_eq sweepD rnm pickR pickW rootsB ptrT renT ptrFn renFn ptrB_flat ptrB_non renB_flat renB_non plainS_some drawS_some fpsOk disj unord range' dropTo enumT undef wrap_i64_id Value.cells mkCells ptrTo scal cellsAt rdN endS_ret resultsA Option.bind_some tupV finish reachN dep ptrL_eq ptrL renL_eq renL ptrV_bool ptrV_int ptrV_string ptrV_nilFunc ptrV_nilIface ptrV_nilPtr ptrV_ptr ptrV_nilSl ptrV_sl ptrV_iface ptrV_agg ptrV_tuple ptrV_func renV_bool renV_int renV_string renV_nilFunc renV_nilIface renV_nilPtr renV_ptr renV_nilSl renV_sl renV_iface renV_agg renV_tuple renV_func gotoS_goto gotoS_normal gotoS_exit gotoS_ret skip_seq sliceE bnd bndHi intOf optOpd keepT_nil keepT_cons keepC_t keepC_f lk_nil lk_cons lkC_t lkC_f has_nil has_cons hasC_t hasC_f rep_nil rep_cons repC_t repC_f put_eq putC_t putC_f mem_nil mem_cons memC_t memC_f idx_nil idx_cons idxC_t idxC_f reach_nil reachP_cons reachQ_t reachQ_f ptrB_dead renB_dead ins_eq
attribute [local simp] n66_1s n66_3s n66_9s n66_11s n66_12s n66_10s n66_8s n66_15s n66_16s n66_14s n66_13s n66_7s n66_6s n66_6g n66_5s n66_18s n66_19s n66_17s n66_4s n66_2s n66_0s Try.f66
def szL : Nat → Nat → Nat
  | 0, _ => 0
  | f + 1, M => M % 2 + szL f (M / 2)
def sizeN (M : Nat) : Nat := szL 9 M
def allN (p : Nat → Bool) : Nat → Bool
  | 0 => true
  | n + 1 => cond (p n) (allN p n) false
theorem allN_spec {p : Nat → Bool} : ∀ n, allN p n = true → ∀ i, i < n → p i = true := by
  intro n
  induction n with
  | zero => intro _ i hi; omega
  | succ n ih =>
    intro h i hi
    simp only [allN] at h
    cases hp : p n
    · rw [hp] at h; cases h
    · rw [hp] at h
      by_cases e : i = n
      · subst e; exact hp
      · exact ih h i (by omega)
noncomputable def chk79 (M : Nat) : Bool := match runB Try.prog LL 79 [.int .u32 (M : Int)] [] with
  | some ⟨.int .i64 v, [], []⟩ => v == ((sizeN M : Nat) : Int)
  | _ => false
theorem chk79_ok : allN chk79 512 = true := by kernel_rfl
theorem k79 (M : Nat) (hM : M < 512) (h : List Blk) : callH LL 79 [wv M] h = some ⟨iv (sizeN M : Nat), h, [], []⟩ := by
  refine callH_plain (go (by decide) ?_) rfl rfl
  have := allN_spec 512 chk79_ok M hM
  unfold chk79 at this
  split at this
  · rename_i v e
    rw [show wv M = .int .u32 (M : Int) from rfl, e]
    have : v = ((sizeN M : Nat) : Int) := by simpa using this
    rw [this]
  · cases this
theorem l66 : ∀ (f M a : Nat), M < 2 ^ f → f ≤ 9 → a + f ≤ 100 →
    lpB Try.prog LL ⟨66, 13, 0, none⟩ n66_6 n66_7 ⟨[(0, iv M), (3, iv a)], [], []⟩ = some (.exit 0, ⟨[(3, iv (a + szL f M : Nat))], [], []⟩) := by
  intro f
  induction f with
  | zero =>
    intro M a hM hf ha
    obtain rfl : M = 0 := by simpa using hM
    simp only [szL, Nat.add_zero, Int.natCast_zero]
    rw [lpB_eq]
    simp (maxSteps := 1000000) (disch := first | omega | decide | assumption | simp [scal])
  | succ f ih =>
    intro M a hM hf ha
    by_cases h0 : M = 0
    · subst h0
      have : szL (f + 1) 0 = 0 := by
        have key : ∀ f, szL f 0 = 0 := by
          intro f
          induction f with
          | zero => rfl
          | succ f ih => simp [szL, ih]
        exact key _
      rw [this]
      simp only [Nat.add_zero, Int.natCast_zero]
      rw [lpB_eq]
      simp (maxSteps := 1000000) (disch := first | omega | decide | assumption | simp [scal])
    · have e1 : (0 : Int) < M := by omega
      have e0 : 0 < M := by omega
      have hp : 2 ^ (f + 1) ≤ 2 ^ 9 := Nat.pow_le_pow_right (by decide) hf
      have h512 : M < 512 := by omega
      have this := ih (M / 2) (a + M % 2) (by rw [Nat.pow_succ] at hM; omega) (by omega) (by omega)
      have f2 := fun cc => @bin_and1i Try.prog 3 cc M (by omega)
      simp only [szL]
      rw [show a + (M % 2 + szL f (M / 2)) = a + M % 2 + szL f (M / 2) by omega]
      have hw : IntKind.i64.wrap ((a : Int) + ((M % 2 : Nat) : Int)) = ((a + M % 2 : Nat) : Int) := by rw [wrap_i64_id (by omega) (by omega)]; rfl
      have f1' : (M : Int).fdiv 2 = ((M / 2 : Nat) : Int) := by rw [Int.fdiv_eq_ediv_of_nonneg _ (by decide)]; omega
      generalize ((a + M % 2 + szL f (M / 2) : Nat) : Int) = Z at *
      generalize ((a + M % 2 : Nat) : Int) = av at *
      generalize ((M % 2 : Nat) : Int) = m2 at *
      generalize ((M / 2 : Nat) : Int) = md at *
      rw [lpB_eq]
      simp (maxSteps := 1000000) (disch := first | omega | decide | assumption | simp [scal]) [e0, e1, f2, f1', hw, this]
theorem k66 (M : Nat) (hM : M < 512) (h : List Blk) : callH LL 66 [iv M] h = some ⟨iv (sizeN M : Nat), h, [], []⟩ := by
  refine callH_plain (go (by decide) ?_) rfl rfl
  have := l66 9 M 0 (by omega) (by omega) (by omega)
  simp only [Int.natCast_zero, Nat.zero_add] at this
  unfold sizeN
  rw [run66 _ _ _ (by simp)]
  simp (maxSteps := 1000000) (disch := first | omega | decide | assumption | simp [scal]) [this]
end Go.Proofs.Ytfccmddkblbeoaa.rk
namespace Go.Proofs.Ytfccmddkblbeoaa.rk
open Go.GE
set_option linter.unusedVariables false
set_option linter.unusedSimpArgs false
set_option linter.unusedSectionVars false
set_option maxRecDepth 100000
set_option maxHeartbeats 4000000
attribute [local simp] runOps_nil runOps_cons runOpsF_nil runOpsF_cons fstS_some fstF_some opStep_eq want_none oStep_true oStep_false fin_pure fin_read fin_alloc fin_write storeB wrN cellV addWr o_move o_assign o_pick o_alloc o_box o_load o_store o_nilCheck o_bin o_un o_extract o_callV o_callB o_callI callV_f callV_y callV_fc o_makeFunc partsA Instr.fill builtin_len builtin_max2 bin_add bin_sub bin_mul bin_quo bin_rem bin_lss bin_leq bin_gtr bin_geq bin_eql bin_neq un_neg un_not bin_shr bin_shl wrap_u64_id opd opds optAll putO nbeq nblt constOk isC ops sub cl cr co bodyOf thenS_normal thenS_ret thenS_exit thenS_goto afterN_normal afterN_ret afterN_exit afterN_goto condS_true condS_false blockS_normal blockS_ret blockS_exit blockS_goto headS normS normK_eq fixS_nil fixS_cons fix1 fixV emptyB keepO_nil keepO_cons roundC_normal roundC_exit roundC_ret roundC_goto sweep_eq sweepD rnm pickR pickW rootsB ptrT renT ptrFn renFn ptrB_flat ptrB_non renB_flat renB_non plainS_some drawS_some fpsOk disj unord range' dropTo enumT undef wrap_i64_id Value.cells mkCells ptrTo scal cellsAt rdN endS_ret resultsA Option.bind_some tupV finish reachN dep ptrL_eq ptrL renL_eq renL ptrV_bool ptrV_int ptrV_string ptrV_nilFunc ptrV_nilIface ptrV_nilPtr ptrV_ptr ptrV_nilSl ptrV_sl ptrV_iface ptrV_agg ptrV_tuple ptrV_func renV_bool renV_int renV_string renV_nilFunc renV_nilIface renV_nilPtr renV_ptr renV_nilSl renV_sl renV_iface renV_agg renV_tuple renV_func gotoS_goto gotoS_normal gotoS_exit gotoS_ret skip_seq sliceE bnd bndHi intOf optOpd keepT_nil keepT_cons keepC_t keepC_f lk_nil lk_cons lkC_t lkC_f has_nil has_cons hasC_t hasC_f rep_nil rep_cons repC_t repC_f put_eq putC_t putC_f mem_nil mem_cons memC_t memC_f idx_nil idx_cons idxC_t idxC_f reach_nil reachP_cons reachQ_t reachQ_f ptrB_dead renB_dead ins_eq
attribute [local simp] n65_1s n65_3s n65_5s n65_8s n65_13s n65_15s n65_16s n65_14s n65_12s n65_20s n65_25s n65_27s n65_28s n65_26s n65_24s n65_32s n65_34s n65_35s n65_33s n65_31s n65_30s n65_36s n65_29s n65_23s n65_22s n65_22g n65_21s n65_19s n65_18s n65_37s n65_17s n65_11s n65_10s n65_10g n65_9s n65_7s n65_39s n65_40s n65_38s n65_6s n65_4s n65_2s n65_0s Try.f65
theorem cS_up {f g : Nat → Nat} {i v : Nat} (hv : g i = f i + v) : ∀ k j a, j ≤ i → i < j + k → (∀ t, j ≤ t → t < j + k → t ≠ i → g t = f t) → cS g k j a = cS f k j a + v := by
  intro k
  induction k with
  | zero => intro j a h1 h2; omega
  | succ k ih =>
    intro j a h1 h2 h3
    simp only [cS]
    by_cases e : j = i
    · subst e
      rw [hv, cS_add k (j + 1) (a + (f j + v)), cS_add k (j + 1) (a + f j), cS_congr (f := g) (g := f) k (j + 1) 0 fun t h4 h5 => h3 t (by omega) (by omega) (by omega)]
      omega
    · rw [h3 j (by omega) (by omega) e]
      exact ih (j + 1) (a + f j) (by omega) (by omega) fun t h4 h5 h6 => h3 t (by omega) (by omega) h6
def pF (nx : Nat → Nat → Bool) (n S i x j : Nat) : Nat := cond (x.testBit j && nx (adn x j) j && (decide (adn x j < S) || (decide (adn x j = S) && decide (j < i)))) (gB nx n (adn x j)) 0
def pP (nx : Nat → Nat → Bool) (n S i x : Nat) : Nat := if x = 0 then 1 else cS (pF nx n S i x) n 0 0
theorem pF_le {nx : Nat → Nat → Bool} {n S i x : Nat} (hn : n ≤ 12) (j : Nat) : pF nx n S i x j ≤ 8916100448256 := by
  unfold pF
  generalize (x.testBit j && nx (adn x j) j && (decide (adn x j < S) || (decide (adn x j = S) && decide (j < i)))) = b
  cases b
  · exact Nat.zero_le _
  · exact gB_le hn
theorem pP_le {nx : Nat → Nat → Bool} {n S i x : Nat} (hn : n ≤ 12) (B : Nat) (hB : B = 8916100448256) : pP nx n S i x ≤ 1 + 12 * B := by
  unfold pP
  split
  · omega
  · have := cS_le (f := pF nx n S i x) (B := B) (fun j => by rw [hB]; exact pF_le hn j) n 0 0
    have h2 : n * B ≤ 12 * B := Nat.mul_le_mul hn (Nat.le_refl _)
    omega
theorem gB_sum {nx : Nat → Nat → Bool} {n x : Nat} (hn : n ≤ 12) (hx : x < 2 ^ n) (h0 : x ≠ 0) : gB nx n x = cS (fun j => cond (x.testBit j && nx (adn x j) j) (gB nx n (adn x j)) 0) n 0 0 := by
  have hx32 : x < 2 ^ 32 := Nat.lt_of_lt_of_le hx (Nat.pow_le_pow_right (by decide) (by omega))
  have hle := cntU_le (n := n) (M := x)
  have hne : cntU n x ≠ n := fun h => h0 (none_bits hx h)
  obtain ⟨k, hk⟩ : ∃ k, n - cntU n x = k + 1 := ⟨n - cntU n x - 1, by omega⟩
  have e : gB nx n x = cS (bF nx n k x) n 0 0 := by unfold gB; rw [hk]; rfl
  rw [e]
  refine cS_congr n 0 0 fun j _ hj => ?_
  unfold bF
  cases hb : (x.testBit j && nx (adn x j) j)
  · rfl
  · rw [Bool.and_eq_true] at hb
    have := cntU_adn (n := n) (by omega) hn hx32 hb.1
    simp only [cond_true]
    unfold gB
    rw [show n - cntU n (adn x j) = k by omega]
theorem adn_lt {x j : Nat} (hj : j < 32) (hx : x < 2 ^ 32) (h : x.testBit j = true) : adn x j < x := by
  have h1 := or_gt (adn_off hj hx)
  rw [adn_or hj hx h] at h1
  exact h1
theorem pP_self {nx : Nat → Nat → Bool} {n S i : Nat} (hn : n ≤ 12) (hS : S < 2 ^ n) : pP nx n S i S = gB nx n S := by
  have hx32 : S < 2 ^ 32 := Nat.lt_of_lt_of_le hS (Nat.pow_le_pow_right (by decide) (by omega))
  unfold pP
  by_cases h0 : S = 0
  · rw [if_pos h0, h0]; simp only [gB, cntU_zero, Nat.sub_self, cB]
  · rw [if_neg h0, gB_sum hn hS h0]
    refine cS_congr n 0 0 fun j _ hj => ?_
    unfold pF
    cases hb : (S.testBit j && nx (adn S j) j)
    · rfl
    · rw [Bool.and_eq_true] at hb
      have := adn_lt (j := j) (by omega) hx32 hb.1
      simp [this]
theorem pP_end {nx : Nat → Nat → Bool} {n x : Nat} (hn : n ≤ 12) (hx : x < 2 ^ n) : pP nx n (2 ^ n) 0 x = gB nx n x := by
  have hx32 : x < 2 ^ 32 := Nat.lt_of_lt_of_le hx (Nat.pow_le_pow_right (by decide) (by omega))
  unfold pP
  by_cases h0 : x = 0
  · rw [if_pos h0, h0]; simp only [gB, cntU_zero, Nat.sub_self, cB]
  · rw [if_neg h0, gB_sum hn hx h0]
    refine cS_congr n 0 0 fun j _ hj => ?_
    unfold pF
    have : adn x j < 2 ^ n := Nat.lt_of_le_of_lt adn_le hx
    simp [this]
theorem pP_next {nx : Nat → Nat → Bool} {n S x : Nat} : pP nx n S n x = pP nx n (S + 1) 0 x := by
  unfold pP
  by_cases h0 : x = 0
  · rw [if_pos h0, if_pos h0]
  · rw [if_neg h0, if_neg h0]
    refine cS_congr n 0 0 fun j _ hj => ?_
    unfold pF
    have : (decide (adn x j < S) || (decide (adn x j = S) && decide (j < n))) = (decide (adn x j < S + 1) || (decide (adn x j = S + 1) && decide (j < 0))) := by
      have hj' : j < n := by omega
      simp only [hj', decide_true, Bool.and_true, Nat.not_lt_zero, decide_false, Bool.and_false, Bool.or_false]
      rw [← Bool.decide_or]
      apply decide_eq_decide.2
      omega
    rw [this]
theorem pP_skip {nx : Nat → Nat → Bool} {n S i x : Nat} (hn : n ≤ 12) (hx : x < 2 ^ n) (h : nx S i = false ∨ x ≠ S ||| 2 ^ i) : pP nx n S (i + 1) x = pP nx n S i x := by
  have hx32 : x < 2 ^ 32 := Nat.lt_of_lt_of_le hx (Nat.pow_le_pow_right (by decide) (by omega))
  unfold pP
  by_cases h0 : x = 0
  · rw [if_pos h0, if_pos h0]
  · rw [if_neg h0, if_neg h0]
    refine cS_congr n 0 0 fun j _ hj => ?_
    unfold pF
    by_cases hc : x.testBit j = true ∧ nx (adn x j) j = true ∧ adn x j = S ∧ j = i
    · obtain ⟨c1, c2, c3, c4⟩ := hc
      subst c4
      rcases h with h | h
      · rw [c3] at c2; rw [c2] at h; cases h
      · have := adn_or (j := j) (by omega) hx32 c1
        rw [c3] at this
        exact absurd this.symm h
    · by_cases c3 : adn x j = S ∧ j = i
      · obtain ⟨c3, c4⟩ := c3
        cases c1 : x.testBit j
        · rfl
        · cases c2 : nx (adn x j) j
          · rfl
          · exact absurd ⟨c1, c2, c3, c4⟩ hc
      · have : (decide (adn x j = S) && decide (j < i + 1)) = (decide (adn x j = S) && decide (j < i)) := by
          by_cases c4 : adn x j = S
          · have c5 : j ≠ i := fun e => c3 ⟨c4, e⟩
            simp only [c4, decide_true, Bool.true_and]
            apply decide_eq_decide.2
            omega
          · simp [c4]
        rw [this]
theorem pP_add {nx : Nat → Nat → Bool} {n S i : Nat} (hn : n ≤ 12) (hi : i < n) (hS : S < 2 ^ n) (hb : S.testBit i = false) (h : nx S i = true) : pP nx n S (i + 1) (S ||| 2 ^ i) = pP nx n S i (S ||| 2 ^ i) + gB nx n S := by
  have hx : S ||| 2 ^ i < 2 ^ n := Nat.or_lt_two_pow hS (Nat.pow_lt_pow_right (by decide) hi)
  have hx32 : S ||| 2 ^ i < 2 ^ 32 := Nat.lt_of_lt_of_le hx (Nat.pow_le_pow_right (by decide) (by omega))
  have hS32 : S < 2 ^ 32 := Nat.lt_of_lt_of_le hS (Nat.pow_le_pow_right (by decide) (by omega))
  have hgt := or_gt hb
  have hbit : (S ||| 2 ^ i).testBit i = true := by rw [bit_or]; simp
  have hadn : adn (S ||| 2 ^ i) i = S := by
    apply Nat.eq_of_testBit_eq
    intro t
    rw [adn_bit (by omega) hx32, bit_or]
    by_cases e : i = t
    · subst e; simp [hb]
    · simp [e]
  unfold pP
  rw [if_neg (by omega), if_neg (by omega)]
  refine cS_up (i := i) ?_ n 0 0 (by omega) (by omega) fun j _ hj hne => ?_
  · unfold pF
    rw [hadn, hbit, h]
    simp
  · unfold pF
    have : (decide (adn (S ||| 2 ^ i) j = S) && decide (j < i + 1)) = (decide (adn (S ||| 2 ^ i) j = S) && decide (j < i)) := by
      congr 1
      apply decide_eq_decide.2
      omega
    rw [this]
section
variable (off n c : Nat) {cs : List Value} {own : Bool} {l : Nat → Int × Int}
theorem l65i (hc : SpC cs off n l) (hn : n ≤ 12) (S : Nat) (hS : S < 2 ^ n) : ∀ (q i : Nat), i + q = n →
    lpB Try.prog LL ⟨65, 49, 1, none⟩ n65_22 n65_23 ⟨[(5, iv i), (0, sl 0 off n c), (3, sl 1 0 (2 ^ n) (2 ^ n)), (4, iv S)], [.cells cs 2 true own, tb (pP (nxB l n) n S i) (2 ^ n)], []⟩ =
      some (.exit 2, ⟨[(0, sl 0 off n c), (3, sl 1 0 (2 ^ n) (2 ^ n)), (4, iv S)], [.cells cs 2 true own, tb (pP (nxB l n) n S n) (2 ^ n)], []⟩) := by
  have hS32 : S < 2 ^ 32 := Nat.lt_of_lt_of_le hS (Nat.pow_le_pow_right (by decide) (by omega))
  intro q
  induction q with
  | zero =>
    intro i hi
    obtain rfl : i = n := by omega
    simp only [tb]
    generalize tL (pP (nxB l i) i S i) (2 ^ i) = U
    generalize 2 ^ i = N at *
    rw [lpB_eq]
    simp (maxSteps := 1000000) (disch := first | omega | decide | assumption | simp [scal]) [lenA_sl lk_22, o_indexAddrS es_24, sz_3, lenA_sl lk_24, loadA_eq ia_3, want_some q65_32g5]
  | succ q ih =>
    intro i hi
    have e0 : i < n := by omega
    have e1 : (i : Int) < n := by omega
    have a1 := fun bx => k63 0 off n c (h := .cells cs 2 true own :: bx) rfl hc (by omega) S i hS32 e0
    have this := ih (i + 1) (by omega)
    have p1 := tL_get (g := pP (nxB l n) n S i) hS
    rw [pP_self hn hS] at p1
    have ul := tL_len (g := pP (nxB l n) n S i) (N := 2 ^ n)
    by_cases hg : 0 < gB (nxB l n) n S
    · have hg' : (0 : Int) < (gB (nxB l n) n S : Int) := by omega
      cases h : nxB l n S i
      · rw [h] at a1
        have e : tL (pP (nxB l n) n S (i + 1)) (2 ^ n) = tL (pP (nxB l n) n S i) (2 ^ n) := tL_congr fun x hx => pP_skip hn hx (.inl h)
        simp only [tb, e, cast1] at this ⊢
        clear ih e
        generalize gB (nxB l n) n S = w at *
        generalize tL (pP (nxB l n) n S i) (2 ^ n) = U at *
        generalize tL (pP (nxB l n) n S n) (2 ^ n) = U2 at *
        generalize 2 ^ n = N at *
        have l1 : S < U.length := by omega
        obtain ⟨_, p1⟩ := List.getElem?_eq_some_iff.1 p1
        rw [lpB_eq]
        simp (maxSteps := 1000000) (disch := first | omega | decide | assumption | simp [scal]) [lenA_sl lk_22, o_indexAddrS es_24, sz_3, lenA_sl lk_24, loadA_eq ia_3, want_some q65_32g5, e0, e1, a1, l1, ul, hS, p1, hg, hg', this]
      · rw [h] at a1
        have h2 : S ||| 2 ^ i < 2 ^ n := Nat.or_lt_two_pow hS (Nat.pow_lt_pow_right (by decide) e0)
        have p2 := tL_get (g := pP (nxB l n) n S i) h2
        have hadd := pP_add hn e0 hS (nxB_bit h) h
        have hle := pP_le (nx := nxB l n) (n := n) (S := S) (i := i + 1) (x := S ||| 2 ^ i) hn 8916100448256 rfl
        have u1 := tL_set (g := pP (nxB l n) n S i) (N := 2 ^ n) (S := S ||| 2 ^ i) (v := pP (nxB l n) n S i (S ||| 2 ^ i) + gB (nxB l n) n S)
        have e : tL (up (pP (nxB l n) n S i) (S ||| 2 ^ i) (pP (nxB l n) n S i (S ||| 2 ^ i) + gB (nxB l n) n S)) (2 ^ n) = tL (pP (nxB l n) n S (i + 1)) (2 ^ n) := tL_congr fun x hx => by
          by_cases hxe : x = S ||| 2 ^ i
          · subst hxe; rw [up_self, hadd]
          · rw [up_other hxe]; exact (pP_skip hn hx (.inr hxe)).symm
        rw [e] at u1
        have s1 := shl_powi (J := i) (by omega)
        have s2 := fun cc => @bin_ori Try.prog 3 cc S (2 ^ i) (by omega) (Nat.pow_lt_pow_right (by decide) (by omega))
        rw [hadd] at hle
        simp only [tb, cast1] at this ⊢
        clear ih e hadd
        generalize gB (nxB l n) n S = w at *
        generalize pP (nxB l n) n S i (S ||| 2 ^ i) = v at *
        have hw : IntKind.i64.wrap ((v : Int) + (w : Int)) = ((v + w : Nat) : Int) := by rw [wrap_i64_id (by omega) (by omega)]; rfl
        generalize ((v + w : Nat) : Int) = vw at *
        generalize tL (pP (nxB l n) n S i) (2 ^ n) = U at *
        generalize tL (pP (nxB l n) n S (i + 1)) (2 ^ n) = U1 at *
        generalize tL (pP (nxB l n) n S n) (2 ^ n) = U2 at *
        generalize S ||| 2 ^ i = S2 at *
        generalize ((2 ^ i : Nat) : Int) = J2 at *
        generalize 2 ^ n = N at *
        have l1 : S < U.length := by omega
        have l2 : S2 < U.length := by omega
        obtain ⟨_, p1⟩ := List.getElem?_eq_some_iff.1 p1
        obtain ⟨_, p2⟩ := List.getElem?_eq_some_iff.1 p2
        rw [lpB_eq]
        simp (maxSteps := 1000000) (disch := first | omega | decide | assumption | simp [scal]) [lenA_sl lk_22, o_indexAddrS es_24, sz_3, lenA_sl lk_24, loadA_eq ia_3, want_some q65_32g5, e0, e1, a1, l1, l2, ul, hS, h2, p1, p2, hg, hg', s1, s2, hw, u1, this]
    · have hg0 : gB (nxB l n) n S = 0 := by omega
      rw [hg0] at p1
      have e : tL (pP (nxB l n) n S (i + 1)) (2 ^ n) = tL (pP (nxB l n) n S i) (2 ^ n) := tL_congr fun x hx => by
        cases h : nxB l n S i
        · exact pP_skip hn hx (.inl h)
        · by_cases hxe : x = S ||| 2 ^ i
          · subst hxe; rw [pP_add hn e0 hS (nxB_bit h) h, hg0]; rfl
          · exact pP_skip hn hx (.inr hxe)
      simp only [tb, e, cast1, Int.natCast_zero] at this p1 ⊢
      clear ih e
      generalize tL (pP (nxB l n) n S i) (2 ^ n) = U at *
      generalize tL (pP (nxB l n) n S n) (2 ^ n) = U2 at *
      generalize 2 ^ n = N at *
      have l1 : S < U.length := by omega
      obtain ⟨_, p1⟩ := List.getElem?_eq_some_iff.1 p1
      rw [lpB_eq]
      simp (maxSteps := 1000000) (disch := first | omega | decide | assumption | simp [scal]) [lenA_sl lk_22, o_indexAddrS es_24, sz_3, lenA_sl lk_24, loadA_eq ia_3, want_some q65_32g5, e0, e1, l1, ul, hS, p1, this]
theorem l65 (hc : SpC cs off n l) (hn : n ≤ 12) : ∀ (q S : Nat), S + q = 2 ^ n →
    lpB Try.prog LL ⟨65, 49, 1, none⟩ n65_10 n65_11 ⟨[(0, sl 0 off n c), (3, sl 1 0 (2 ^ n) (2 ^ n)), (4, iv S)], [.cells cs 2 true own, tb (pP (nxB l n) n S 0) (2 ^ n)], []⟩ =
      some (.exit 0, ⟨[(3, sl 1 0 (2 ^ n) (2 ^ n))], [.cells cs 2 true own, tb (gB (nxB l n) n) (2 ^ n)], []⟩) := by
  have hN2 : 2 ^ n ≤ 4096 := by have := Nat.pow_le_pow_right (n := 2) (by decide) hn; omega
  intro q
  induction q with
  | zero =>
    intro S hS
    obtain rfl : S = 2 ^ n := by omega
    have e : tL (pP (nxB l n) n (2 ^ n) 0) (2 ^ n) = tL (gB (nxB l n) n) (2 ^ n) := tL_congr fun x hx => pP_end hn hx
    simp only [tb, e]
    generalize tL (gB (nxB l n) n) (2 ^ n) = U
    generalize 2 ^ n = N at *
    rw [lpB_eq]
    simp (maxSteps := 1000000) (disch := first | omega | decide | assumption | simp [scal]) [lenA_sl lk_22, o_indexAddrS es_24, sz_3, lenA_sl lk_24, loadA_eq ia_3, want_some q65_32g5]
  | succ q ih =>
    intro S hS
    have inn := l65i off n c (own := own) hc hn S (by omega) n 0 (by omega)
    have this := ih (S + 1) (by omega)
    have e : tL (pP (nxB l n) n (S + 1) 0) (2 ^ n) = tL (pP (nxB l n) n S n) (2 ^ n) := tL_congr fun x hx => pP_next.symm
    simp only [tb, e, cast1, Int.natCast_zero] at inn this ⊢
    clear ih e
    generalize tL (pP (nxB l n) n S 0) (2 ^ n) = U at *
    generalize tL (pP (nxB l n) n S n) (2 ^ n) = U1 at *
    generalize tL (gB (nxB l n) n) (2 ^ n) = U2 at *
    generalize 2 ^ n = N at *
    have e1 : (S : Int) < N := by omega
    rw [lpB_eq]
    simp (maxSteps := 1000000) (disch := first | omega | decide | assumption | simp [scal]) [lenA_sl lk_22, o_indexAddrS es_24, sz_3, lenA_sl lk_24, loadA_eq ia_3, want_some q65_32g5, e1, inn, this]
theorem r65 (hc : SpC cs off n l) (hn : n ≤ 12) : LL.run 65 [sl 0 off n c] [.cells cs 2 true own] = some ⟨sl 1 0 (2 ^ n) (2 ^ n), [tb (gB (nxB l n) n) (2 ^ n)], []⟩ := by
  refine go (by decide) ?_
  have hN : 1 ≤ 2 ^ n := Nat.two_pow_pos n
  have hN2 : 2 ^ n ≤ 4096 := by have := Nat.pow_le_pow_right (n := 2) (by decide) hn; omega
  have this := l65 off n c (own := own) hc hn (2 ^ n) 0 (by omega)
  have e : tL (up (fun _ => 0) 0 1) (2 ^ n) = tL (pP (nxB l n) n 0 0) (2 ^ n) := tL_congr fun x hx => by
    unfold pP
    by_cases h0 : x = 0
    · subst h0; rw [up_self, if_pos rfl]
    · rw [up_other h0, if_neg h0]
      have key : ∀ k j, cS (pF (nxB l n) n 0 0 x) k j 0 = 0 := by
        intro k
        induction k with
        | zero => intro j; rfl
        | succ k ih =>
          intro j
          simp only [cS]
          have : pF (nxB l n) n 0 0 x j = 0 := by unfold pF; simp
          rw [this]
          exact ih _
      exact (key _ _).symm
  have s1 := shl_powi (J := n) (by omega)
  have u1 := tL_set (g := fun _ => 0) (N := 2 ^ n) (S := 0) (v := 1)
  have ul := tL_len (g := fun _ => 0) (N := 2 ^ n)
  have z1 := tL_zero (N := 2 ^ n)
  rw [e] at u1
  simp only [tb, Int.natCast_zero] at this ⊢
  simp only [Int.natCast_one] at u1
  clear e
  generalize tL (pP (nxB l n) n 0 0) (2 ^ n) = U1 at *
  generalize tL (gB (nxB l n) n) (2 ^ n) = U2 at *
  generalize tL (fun _ => 0) (2 ^ n) = U at *
  generalize 2 ^ n = N at *
  have m0 : (N : Int) * 8 ≤ 70368744177664 := by omega
  have m1 : (N : Int) ≤ 70368744177664 := by omega
  have l1 : 0 < U.length := by omega
  have t4 : (0 : Int) < N := by omega
  have t5 : 0 < N := by omega
  rw [run65 _ _ _ (by simp)]
  simp (maxSteps := 1000000) (disch := first | omega | decide | assumption | simp [scal]) [lenA_sl lk_22, o_indexAddrS es_24, sz_3, lenA_sl lk_24, loadA_eq ia_3, want_some q65_32g5, s1, mk24, m0, m1, z1, ul, l1, t4, t5, u1, this]
end
section
variable (b off n c : Nat) {cs : List Value} {own : Bool} {l : Nat → Int × Int} {h : List Blk} (hb : h[b]? = some (.cells cs 2 true own)) (hc : SpC cs off n l)
include hb hc
theorem k65 (hn : n ≤ 12) : callH LL 65 [sl b off n c] h = some ⟨sl h.length 0 (2 ^ n) (2 ^ n), h ++ [tb (gB (nxB l n) n) (2 ^ n)], [b], []⟩ := by
  have hr := r65 off n c (own := own) hc hn
  exact callN_1 rfl hb noIdB_flat (args' := [sl 0 off n c]) (by simp [renV, dep, optAll, idx, nbeq]) hr (by intro blk hb; simp only [List.mem_singleton] at hb; subst hb; exact noIdB_flat) (by simp [renV, dep, optAll])
end
end Go.Proofs.Ytfccmddkblbeoaa.rk
namespace Go.Proofs.Ytfccmddkblbeoaa.rk
open Go.GE
set_option linter.unusedVariables false
set_option linter.unusedSimpArgs false
set_option linter.unusedSectionVars false
set_option maxRecDepth 100000
set_option maxHeartbeats 4000000
attribute [local simp] runOps_nil runOps_cons runOpsF_nil runOpsF_cons fstS_some fstF_some opStep_eq want_none oStep_true oStep_false fin_pure fin_read fin_alloc fin_write storeB wrN cellV addWr o_move o_assign o_pick o_alloc o_box o_load o_store o_nilCheck o_bin o_un o_extract o_callV o_callB o_callI callV_f callV_y callV_fc o_makeFunc partsA Instr.fill builtin_len builtin_max2 bin_add bin_sub bin_mul bin_quo bin_rem bin_lss bin_leq bin_gtr bin_geq bin_eql bin_neq un_neg un_not bin_shr bin_shl wrap_u64_id opd opds optAll putO nbeq nblt constOk isC ops sub cl cr co bodyOf thenS_normal thenS_ret thenS_exit thenS_goto afterN_normal afterN_ret afterN_exit afterN_goto condS_true condS_false blockS_normal blockS_ret blockS_exit blockS_goto headS normS normK_eq fixS_nil fixS_cons fix1 fixV emptyB keepO_nil keepO_cons roundC_normal roundC_exit roundC_ret roundC_goto sweep_eq sweepD rnm pickR pickW rootsB ptrT renT ptrFn renFn ptrB_flat ptrB_non renB_flat renB_non plainS_some drawS_some fpsOk disj unord range' dropTo enumT undef wrap_i64_id Value.cells mkCells ptrTo scal cellsAt rdN endS_ret resultsA Option.bind_some tupV finish reachN dep ptrL_eq ptrL renL_eq renL ptrV_bool ptrV_int ptrV_string ptrV_nilFunc ptrV_nilIface ptrV_nilPtr ptrV_ptr ptrV_nilSl ptrV_sl ptrV_iface ptrV_agg ptrV_tuple ptrV_func renV_bool renV_int renV_string renV_nilFunc renV_nilIface renV_nilPtr renV_ptr renV_nilSl renV_sl renV_iface renV_agg renV_tuple renV_func gotoS_goto gotoS_normal gotoS_exit gotoS_ret skip_seq sliceE bnd bndHi intOf optOpd keepT_nil keepT_cons keepC_t keepC_f lk_nil lk_cons lkC_t lkC_f has_nil has_cons hasC_t hasC_f rep_nil rep_cons repC_t repC_f put_eq putC_t putC_f mem_nil mem_cons memC_t memC_f idx_nil idx_cons idxC_t idxC_f reach_nil reachP_cons reachQ_t reachQ_f ptrB_dead renB_dead ins_eq
attribute [local simp] n64_1s n64_3s n64_6s n64_10s n64_13s n64_14s n64_12s n64_18s n64_20s n64_22s n64_23s n64_21s n64_19s n64_17s n64_16s n64_24s n64_15s n64_11s n64_9s n64_8s n64_8g n64_7s n64_5s n64_26s n64_27s n64_25s n64_4s n64_2s n64_0s Try.f64
def wm (L : List Nat) : List Value := L.map fun x => wv x
abbrev wB (L : List Nat) : Blk := .cells (wm L) 1 true true
theorem wm_len {L : List Nat} : (wm L).length = L.length := by simp [wm]
theorem wm_app {L M : List Nat} : wm (L ++ M) = wm L ++ wm M := by simp [wm]
theorem wm_one {x : Nat} : wm [x] = [wv x] := rfl
theorem wm_nil : wm [] = [] := rfl
theorem wm_get {L : List Nat} {i : Nat} (h : i < L.length) : (wm L)[i]? = some (wv (L.getD i 0)) := by simp [wm, h]
def inG (nx : Nat → Nat → Bool) (n : Nat) (K : Int) (s : Nat) : Bool := decide (((sizeN s : Nat) : Int) = K) && decide (0 < gB nx n s)
def grL (nx : Nat → Nat → Bool) (n : Nat) (K : Int) : Nat → Nat → List Nat
  | 0, _ => []
  | q + 1, s => if inG nx n K s = true then s :: grL nx n K q (s + 1) else grL nx n K q (s + 1)
theorem grL_len {nx : Nat → Nat → Bool} {n : Nat} {K : Int} : ∀ q s, (grL nx n K q s).length ≤ q := by
  intro q
  induction q with
  | zero => intro s; simp [grL]
  | succ q ih =>
    intro s
    have := ih (s + 1)
    unfold grL
    split
    · simp only [List.length_cons]; omega
    · omega
theorem grL_mem {nx : Nat → Nat → Bool} {n : Nat} {K : Int} : ∀ q s x, x ∈ grL nx n K q s → s ≤ x ∧ x < s + q ∧ inG nx n K x = true := by
  intro q
  induction q with
  | zero => intro s x h; cases h
  | succ q ih =>
    intro s x h
    unfold grL at h
    split at h
    · rename_i hg
      rcases List.mem_cons.1 h with rfl | h
      · exact ⟨by omega, by omega, hg⟩
      · have := ih _ _ h; exact ⟨by omega, by omega, this.2.2⟩
    · have := ih _ _ h; exact ⟨by omega, by omega, this.2.2⟩
section
variable (off n c : Nat) {cs : List Value} {own : Bool} {l : Nat → Int × Int} (K : Int)
theorem l64 (hc : SpC cs off n l) (hn : n ≤ 9) (es : List (Nat × Nat)) : ∀ (q s : Nat) (O : List Nat) (eb : List (Nat × Nat)) (wr : List Nat), s + q = 2 ^ n → InvB (nxB l n) n eb → (wr = [] ∨ wr = [8]) → O.length ≤ s →
    ∃ eb' wr', InvB (nxB l n) n eb' ∧ ((wr' = wr ∧ eb' = eb) ∨ wr' = [8]) ∧
      lpB Try.prog LL ⟨64, 35, 9, none⟩ n64_8 n64_9 ⟨[(0, pp 0), (1, iv K), (5, sl 9 0 O.length O.length), (12, wv (2 ^ n)), (13, wv s)], LG off n c cs own es eb [wB O], wr⟩ =
      some (.exit 0, ⟨[(5, sl 9 0 (O ++ grL (nxB l n) n K q s).length (O ++ grL (nxB l n) n K q s).length)], LG off n c cs own es eb' [wB (O ++ grL (nxB l n) n K q s)], wr'⟩) := by
  have hN2 : 2 ^ n ≤ 512 := by have := Nat.pow_le_pow_right (n := 2) (by decide) hn; omega
  intro q
  induction q with
  | zero =>
    intro s O eb wr hs hi hw hO
    obtain rfl : s = 2 ^ n := by omega
    refine ⟨eb, wr, hi, .inl ⟨rfl, rfl⟩, ?_⟩
    simp only [grL, List.append_nil, wB]
    generalize wm O = Q at *
    generalize O.length = m at *
    generalize 2 ^ n = N at *
    rw [lpB_eq]
    rcases hw with rfl | rfl
    · simp (maxSteps := 1000000) (disch := first | omega | decide | assumption | simp [scal]) [o_fieldAddr fa_90_0 (by decide), loadA_eq ia_78, lenA_sl lk_78, o_fieldAddr fa_90_2 (by decide), loadA_eq ia_88, o_indexAddrS es_94, ze_94, o_buildSlice es_94 ze_94 (by decide) ba_94_1, ap_94, builtin_append ni_94, want_some q64_20g4, fm_ptr, fm_ren, ptrV_map, renV_map]
    · simp (maxSteps := 1000000) (disch := first | omega | decide | assumption | simp [scal]) [o_fieldAddr fa_90_0 (by decide), loadA_eq ia_78, lenA_sl lk_78, o_fieldAddr fa_90_2 (by decide), loadA_eq ia_88, o_indexAddrS es_94, ze_94, o_buildSlice es_94 ze_94 (by decide) ba_94_1, ap_94, builtin_append ni_94, want_some q64_20g4, fm_ptr, fm_ren, ptrV_map, renV_map]
  | succ q ih =>
    intro s O eb wr hs hi hw hO
    have e1 : (s : Int) < ((2 ^ n : Nat) : Int) := by omega
    have e0 : s < 2 ^ n := by omega
    have a1 := k79 s (by omega)
    have hws : IntKind.u32.wrap ((s : Int) + 1) = (s : Int) + 1 := wrap_u32 (n := s + 1) (by omega)
    have hwv : wv (s + 1) = .int .u32 ((s : Int) + 1) := rfl
    by_cases hK : ((sizeN s : Nat) : Int) = K
    · have hK' := eq_true hK
      obtain ⟨eb1, wr1, g1, g2, g3⟩ := askGB off n c (own := own) hc (by omega) es eb [wB O] s hi e0
      by_cases hg : 0 < gB (nxB l n) n s
      · have hg' : (0 : Int) < (gB (nxB l n) n s : Int) := by omega
        have hG : inG (nxB l n) n K s = true := by unfold inG; simp [hK, hg]
        have hgr : grL (nxB l n) n K (q + 1) s = s :: grL (nxB l n) n K q (s + 1) := by simp only [grL, hG, if_true]
        have c1 := fun hp b c rd => app_list (h := hp) (b := b) (c := c) (k := 1) (by' := 4) (l := O.length) (cs := wm O) (new := [wv s]) (rd := rd) (by rw [wm_len]; simp) (by omega) (by omega) rfl
        have hap : O ++ s :: grL (nxB l n) n K q (s + 1) = (O ++ [s]) ++ grL (nxB l n) n K q (s + 1) := by simp
        have go : ∀ wr2, (wr2 = [] ∨ wr2 = [8]) → _ := fun wr2 x => ih (s + 1) (O ++ [s]) eb1 wr2 (by omega) g1 x (by simp; omega)
        rw [hgr, hap]
        clear ih hgr hap hG
        simp only [wB, cast1] at g3 go ⊢
        generalize wm ((O ++ [s]) ++ grL (nxB l n) n K q (s + 1)) = Y at *
        generalize ((O ++ [s]) ++ grL (nxB l n) n K q (s + 1)).length = y at *
        simp only [List.length_append, List.length_cons, List.length_nil, Nat.zero_add] at go ⊢
        simp only [wm_app, wm_one] at go ⊢
        generalize gB (nxB l n) n s = w at *
        generalize wm O = Q at *
        generalize O.length = m at *
        generalize 2 ^ n = N at *
        rcases g2 with ⟨rfl, rfl⟩ | rfl
        · obtain ⟨eb', wr', i1, i2, i3⟩ := go wr hw
          refine ⟨eb', wr', i1, i2, ?_⟩
          rw [hwv] at i3
          rw [lpB_eq]
          rcases hw with rfl | rfl
          · simp (maxSteps := 1000000) (disch := first | omega | decide | assumption | simp [scal]) [o_fieldAddr fa_90_0 (by decide), loadA_eq ia_78, lenA_sl lk_78, o_fieldAddr fa_90_2 (by decide), loadA_eq ia_88, o_indexAddrS es_94, ze_94, o_buildSlice es_94 ze_94 (by decide) ba_94_1, ap_94, builtin_append ni_94, want_some q64_20g4, e0, e1, a1, hws, hK', hg, hg', g3, append_some ap_94, srcCells, c1, fm_ptr, fm_ren, ptrV_map, renV_map, i3]
          · simp (maxSteps := 1000000) (disch := first | omega | decide | assumption | simp [scal]) [o_fieldAddr fa_90_0 (by decide), loadA_eq ia_78, lenA_sl lk_78, o_fieldAddr fa_90_2 (by decide), loadA_eq ia_88, o_indexAddrS es_94, ze_94, o_buildSlice es_94 ze_94 (by decide) ba_94_1, ap_94, builtin_append ni_94, want_some q64_20g4, e0, e1, a1, hws, hK', hg, hg', g3, append_some ap_94, srcCells, c1, fm_ptr, fm_ren, ptrV_map, renV_map, i3]
        · obtain ⟨eb', wr', i1, i2, i3⟩ := go [8] (.inr rfl)
          refine ⟨eb', wr', i1, .inr (by rcases i2 with ⟨h1, _⟩ | h1 <;> exact h1), ?_⟩
          rw [hwv] at i3
          rw [lpB_eq]
          rcases hw with rfl | rfl
          · simp (maxSteps := 1000000) (disch := first | omega | decide | assumption | simp [scal]) [o_fieldAddr fa_90_0 (by decide), loadA_eq ia_78, lenA_sl lk_78, o_fieldAddr fa_90_2 (by decide), loadA_eq ia_88, o_indexAddrS es_94, ze_94, o_buildSlice es_94 ze_94 (by decide) ba_94_1, ap_94, builtin_append ni_94, want_some q64_20g4, e0, e1, a1, hws, hK', hg, hg', g3, append_some ap_94, srcCells, c1, fm_ptr, fm_ren, ptrV_map, renV_map, i3]
          · simp (maxSteps := 1000000) (disch := first | omega | decide | assumption | simp [scal]) [o_fieldAddr fa_90_0 (by decide), loadA_eq ia_78, lenA_sl lk_78, o_fieldAddr fa_90_2 (by decide), loadA_eq ia_88, o_indexAddrS es_94, ze_94, o_buildSlice es_94 ze_94 (by decide) ba_94_1, ap_94, builtin_append ni_94, want_some q64_20g4, e0, e1, a1, hws, hK', hg, hg', g3, append_some ap_94, srcCells, c1, fm_ptr, fm_ren, ptrV_map, renV_map, i3]
      · have hg0 : gB (nxB l n) n s = 0 := by omega
        have hG : inG (nxB l n) n K s = false := by unfold inG; simp [hg]
        have hgr : grL (nxB l n) n K (q + 1) s = grL (nxB l n) n K q (s + 1) := by simp only [grL, hG, Bool.false_eq_true, if_false]
        have go : ∀ wr2, (wr2 = [] ∨ wr2 = [8]) → _ := fun wr2 x => ih (s + 1) O eb1 wr2 (by omega) g1 x (by omega)
        rw [hgr]
        rw [hg0] at g3
        clear ih hgr hG
        simp only [wB, Int.natCast_zero, cast1] at g3 go ⊢
        generalize wm O = Q at *
        generalize wm (O ++ grL (nxB l n) n K q (s + 1)) = Y at *
        generalize (O ++ grL (nxB l n) n K q (s + 1)).length = y at *
        generalize O.length = m at *
        generalize 2 ^ n = N at *
        rcases g2 with ⟨rfl, rfl⟩ | rfl
        · obtain ⟨eb', wr', i1, i2, i3⟩ := go wr hw
          refine ⟨eb', wr', i1, i2, ?_⟩
          rw [hwv] at i3
          rw [lpB_eq]
          rcases hw with rfl | rfl
          · simp (maxSteps := 1000000) (disch := first | omega | decide | assumption | simp [scal]) [o_fieldAddr fa_90_0 (by decide), loadA_eq ia_78, lenA_sl lk_78, o_fieldAddr fa_90_2 (by decide), loadA_eq ia_88, o_indexAddrS es_94, ze_94, o_buildSlice es_94 ze_94 (by decide) ba_94_1, ap_94, builtin_append ni_94, want_some q64_20g4, e0, e1, a1, hws, hK', g3, fm_ptr, fm_ren, ptrV_map, renV_map, i3]
          · simp (maxSteps := 1000000) (disch := first | omega | decide | assumption | simp [scal]) [o_fieldAddr fa_90_0 (by decide), loadA_eq ia_78, lenA_sl lk_78, o_fieldAddr fa_90_2 (by decide), loadA_eq ia_88, o_indexAddrS es_94, ze_94, o_buildSlice es_94 ze_94 (by decide) ba_94_1, ap_94, builtin_append ni_94, want_some q64_20g4, e0, e1, a1, hws, hK', g3, fm_ptr, fm_ren, ptrV_map, renV_map, i3]
        · obtain ⟨eb', wr', i1, i2, i3⟩ := go [8] (.inr rfl)
          refine ⟨eb', wr', i1, .inr (by rcases i2 with ⟨h1, _⟩ | h1 <;> exact h1), ?_⟩
          rw [hwv] at i3
          rw [lpB_eq]
          rcases hw with rfl | rfl
          · simp (maxSteps := 1000000) (disch := first | omega | decide | assumption | simp [scal]) [o_fieldAddr fa_90_0 (by decide), loadA_eq ia_78, lenA_sl lk_78, o_fieldAddr fa_90_2 (by decide), loadA_eq ia_88, o_indexAddrS es_94, ze_94, o_buildSlice es_94 ze_94 (by decide) ba_94_1, ap_94, builtin_append ni_94, want_some q64_20g4, e0, e1, a1, hws, hK', g3, fm_ptr, fm_ren, ptrV_map, renV_map, i3]
          · simp (maxSteps := 1000000) (disch := first | omega | decide | assumption | simp [scal]) [o_fieldAddr fa_90_0 (by decide), loadA_eq ia_78, lenA_sl lk_78, o_fieldAddr fa_90_2 (by decide), loadA_eq ia_88, o_indexAddrS es_94, ze_94, o_buildSlice es_94 ze_94 (by decide) ba_94_1, ap_94, builtin_append ni_94, want_some q64_20g4, e0, e1, a1, hws, hK', g3, fm_ptr, fm_ren, ptrV_map, renV_map, i3]
    · have hG : inG (nxB l n) n K s = false := by unfold inG; simp [hK]
      have hgr : grL (nxB l n) n K (q + 1) s = grL (nxB l n) n K q (s + 1) := by simp only [grL, hG, Bool.false_eq_true, if_false]
      obtain ⟨eb', wr', i1, i2, i3⟩ := ih (s + 1) O eb wr (by omega) hi hw (by omega)
      refine ⟨eb', wr', i1, i2, ?_⟩
      rw [hwv] at i3
      rw [hgr]
      clear ih hgr hG
      simp only [wB, cast1] at i3 ⊢
      generalize wm O = Q at *
      generalize wm (O ++ grL (nxB l n) n K q (s + 1)) = Y at *
      generalize (O ++ grL (nxB l n) n K q (s + 1)).length = y at *
      generalize O.length = m at *
      generalize 2 ^ n = N at *
      rw [lpB_eq]
      rcases hw with rfl | rfl
      · simp (maxSteps := 1000000) (disch := first | omega | decide | assumption | simp [scal]) [o_fieldAddr fa_90_0 (by decide), loadA_eq ia_78, lenA_sl lk_78, o_fieldAddr fa_90_2 (by decide), loadA_eq ia_88, o_indexAddrS es_94, ze_94, o_buildSlice es_94 ze_94 (by decide) ba_94_1, ap_94, builtin_append ni_94, want_some q64_20g4, e0, e1, a1, hws, hK, fm_ptr, fm_ren, ptrV_map, renV_map, i3]
      · simp (maxSteps := 1000000) (disch := first | omega | decide | assumption | simp [scal]) [o_fieldAddr fa_90_0 (by decide), loadA_eq ia_78, lenA_sl lk_78, o_fieldAddr fa_90_2 (by decide), loadA_eq ia_88, o_indexAddrS es_94, ze_94, o_buildSlice es_94 ze_94 (by decide) ba_94_1, ap_94, builtin_append ni_94, want_some q64_20g4, e0, e1, a1, hws, hK, fm_ptr, fm_ren, ptrV_map, renV_map, i3]
theorem rchLG (es eb : List (Nat × Nat)) (rest : List Blk) : reach (LA off n c cs own es eb rest) 0 reachN [1] [] = [1, 0, 2, 3, 4, 5, 6, 7, 8] := by
  simp only [reachP_cons, nblt, nbeq, mem_nil, mem_cons, memC_t, memC_f, reachQ_f, reachQ_t, Bool.or_false, Bool.or_true, Bool.false_or, Bool.true_or, decide_false, decide_true, Nat.not_lt_zero, rootsB, List.getElem?_cons_succ, List.getElem?_cons_zero, ptrB_non, ptrB_flat, ptrL_eq, ptrL, ptrV_bool, ptrV_int, ptrV_string, ptrV_nilFunc, ptrV_nilIface, ptrV_nilPtr, ptrV_nilSl, ptrV_iface, ptrV_agg, ptrV_tuple, ptrV_func, ptrV_ptr, ptrV_sl, dep, ptrFn, List.nil_append, List.cons_append, List.append_nil, reach_nil, reachN, Nat.reduceEqDiff, Nat.reduceAdd, Nat.reduceSub, reduceCtorEq, Nat.reduceLT, Nat.lt_irrefl, List.flatMap_cons, List.flatMap_nil, optAll, renL_eq, renL, renB_flat, renB_non, renV_bool, renV_int, renV_string, renV_nilFunc, renV_nilIface, renV_nilPtr, renV_ptr, renV_nilSl, renV_sl, renV_iface, renV_agg, renV_tuple, renV_func, renFn, idx_nil, idx_cons, idxC_t, idxC_f, Option.map_some, Option.map_none, fm_ptr, ptrV_map]
theorem pickLG (es eb : List (Nat × Nat)) (rest : List Blk) : optAll (pickB (LA off n c cs own es eb rest) (idx [1, 0, 2, 3, 4, 5, 6, 7, 8])) [1, 0, 2, 3, 4, 5, 6, 7, 8] = some (LG off n c cs own es eb []) := by
  simp (maxSteps := 1000000) (disch := first | omega | decide | assumption | simp [scal]) [pickB, renV_map, fm_ren]
theorem k64 (hc : SpC cs off n l) (hn : n ≤ 9) (es eb : List (Nat × Nat)) (hi : InvB (nxB l n) n eb) : ∃ eb' wr, InvB (nxB l n) n eb' ∧
    callH LL 64 [pp 1, iv K] (LA off n c cs own es eb []) = some ⟨sl 9 0 (grL (nxB l n) n K (2 ^ n) 0).length (grL (nxB l n) n K (2 ^ n) 0).length, LA off n c cs own es eb' [wB (grL (nxB l n) n K (2 ^ n) 0)], [1, 0, 2, 3, 4, 5, 6, 7, 8], wr⟩ ∧ (wr = [] ∨ wr = [8]) := by
  obtain ⟨eb', wr', i1, i2, i3⟩ := l64 off n c (own := own) K hc hn es (2 ^ n) 0 [] eb [] (by omega) hi (.inl rfl) (by simp)
  have f3 := shl_poww (J := n) (by omega)
  simp only [List.nil_append, List.length_nil, wB, wm_nil] at i3 ⊢
  generalize wm (grL (nxB l n) n K (2 ^ n) 0) = Y at *
  generalize (grL (nxB l n) n K (2 ^ n) 0).length = y at *
  rw [show wv 0 = .int .u32 0 from rfl, show wv (2 ^ n) = .int .u32 ((2 ^ n : Nat) : Int) from rfl] at i3
  generalize ((2 ^ n : Nat) : Int) = N at *
  rcases i2 with ⟨rfl, rfl⟩ | rfl
  · have hrun : LL.run 64 [pp 0, iv K] (LG off n c cs own es eb' []) = some ⟨sl 9 0 y y, [.cells Y 1 true true], []⟩ := by
      refine go (by decide) ?_
      rw [run64 _ _ _ (by simp)]
      simp (maxSteps := 1000000) (disch := first | omega | decide | assumption | simp [scal]) [o_fieldAddr fa_90_0 (by decide), loadA_eq ia_78, lenA_sl lk_78, o_fieldAddr fa_90_2 (by decide), loadA_eq ia_88, o_indexAddrS es_94, ze_94, o_buildSlice es_94 ze_94 (by decide) ba_94_1, ap_94, builtin_append ni_94, want_some q64_20g4, f3, i3, fm_ptr, fm_ren, ptrV_map, renV_map]
    exact ⟨eb', [], i1, callH_lit (by intro _; first | trivial | rfl) rfl (rchLG ..) rfl (pickLG ..) hrun (by simp [mergeB, renV_sl, dep, optAll, renB_flat]) (by simp), .inl rfl⟩
  · have hrun : LL.run 64 [pp 0, iv K] (LG off n c cs own es eb []) = some ⟨sl 9 0 y y, [.cells Y 1 true true], [(8, fmB eb')]⟩ := by
      refine go (by decide) ?_
      rw [run64 _ _ _ (by simp)]
      simp (maxSteps := 1000000) (disch := first | omega | decide | assumption | simp [scal]) [o_fieldAddr fa_90_0 (by decide), loadA_eq ia_78, lenA_sl lk_78, o_fieldAddr fa_90_2 (by decide), loadA_eq ia_88, o_indexAddrS es_94, ze_94, o_buildSlice es_94 ze_94 (by decide) ba_94_1, ap_94, builtin_append ni_94, want_some q64_20g4, f3, i3, fm_ptr, fm_ren, ptrV_map, renV_map]
    exact ⟨eb', [8], i1, callH_lit (by intro _; first | trivial | rfl) rfl (rchLG ..) rfl (pickLG ..) hrun (by simp [mergeB, renV_sl, dep, optAll, renB_flat, fm_ren]) (by simp), .inr rfl⟩
end
end Go.Proofs.Ytfccmddkblbeoaa.rk
namespace Go.Proofs.Ytfccmddkblbeoaa.rk
open Go.GE
set_option linter.unusedVariables false
set_option linter.unusedSimpArgs false
set_option linter.unusedSectionVars false
set_option maxRecDepth 100000
set_option maxHeartbeats 4000000
attribute [local simp] runOps_nil runOps_cons runOpsF_nil runOpsF_cons fstS_some fstF_some opStep_eq want_none oStep_true oStep_false fin_pure fin_read fin_alloc fin_write storeB wrN cellV addWr o_move o_assign o_pick o_alloc o_box o_load o_store o_nilCheck o_bin o_un o_extract o_callV o_callB o_callI callV_f callV_y callV_fc o_makeFunc partsA Instr.fill builtin_len builtin_max2 bin_add bin_sub bin_mul bin_quo bin_rem bin_lss bin_leq bin_gtr bin_geq bin_eql bin_neq un_neg un_not bin_shr bin_shl wrap_u64_id opd opds optAll putO nbeq nblt constOk isC ops sub cl cr co bodyOf thenS_normal thenS_ret thenS_exit thenS_goto afterN_normal afterN_ret afterN_exit afterN_goto condS_true condS_false blockS_normal blockS_ret blockS_exit blockS_goto headS normS normK_eq fixS_nil fixS_cons fix1 fixV emptyB keepO_nil keepO_cons roundC_normal roundC_exit roundC_ret roundC_goto sweep_eq sweepD rnm pickR pickW rootsB ptrT renT ptrFn renFn ptrB_flat ptrB_non renB_flat renB_non plainS_some drawS_some fpsOk disj unord range' dropTo enumT undef wrap_i64_id Value.cells mkCells ptrTo scal cellsAt rdN endS_ret resultsA Option.bind_some tupV finish reachN dep ptrL_eq ptrL renL_eq renL ptrV_bool ptrV_int ptrV_string ptrV_nilFunc ptrV_nilIface ptrV_nilPtr ptrV_ptr ptrV_nilSl ptrV_sl ptrV_iface ptrV_agg ptrV_tuple ptrV_func renV_bool renV_int renV_string renV_nilFunc renV_nilIface renV_nilPtr renV_ptr renV_nilSl renV_sl renV_iface renV_agg renV_tuple renV_func gotoS_goto gotoS_normal gotoS_exit gotoS_ret skip_seq sliceE bnd bndHi intOf optOpd keepT_nil keepT_cons keepC_t keepC_f lk_nil lk_cons lkC_t lkC_f has_nil has_cons hasC_t hasC_f rep_nil rep_cons repC_t repC_f put_eq putC_t putC_f mem_nil mem_cons memC_t memC_f idx_nil idx_cons idxC_t idxC_f reach_nil reachP_cons reachQ_t reachQ_f ptrB_dead renB_dead ins_eq
attribute [local simp] n29_1s n29_3s n29_7s n29_10s n29_11s n29_9s n29_13s n29_16s n29_17s n29_15s n29_18s n29_14s n29_12s n29_8s n29_6s n29_5s n29_20s n29_21s n29_19s n29_4s n29_2s n29_0s Try.f29 n30_1s n30_3s n30_6s n30_8s n30_9s n30_7s n30_5s n30_12s n30_15s n30_16s n30_14s n30_17s n30_13s n30_11s n30_19s n30_21s n30_24s n30_29s n30_31s n30_32s n30_30s n30_28s n30_36s n30_38s n30_39s n30_37s n30_35s n30_34s n30_40s n30_33s n30_27s n30_26s n30_26g n30_25s n30_23s n30_42s n30_43s n30_41s n30_22s n30_20s n30_18s n30_10s n30_4s n30_2s n30_0s Try.f30 n67_1s n67_3s n67_9s n67_11s n67_12s n67_10s n67_8s n67_14s n67_13s n67_7s n67_6s n67_6g n67_5s n67_16s n67_17s n67_15s n67_4s n67_2s n67_0s Try.f67 n68_1s n68_3s n68_9s n68_11s n68_12s n68_10s n68_8s n68_14s n68_13s n68_7s n68_6s n68_6g n68_5s n68_16s n68_17s n68_15s n68_4s n68_2s n68_0s Try.f68
def grE (l : Nat → Int × Int) (n : Nat) (K : Int) : Int := if cntE l n = 0 then (if (decide (0 ≤ K) && decide (K ≤ (n : Int))) = true then 0 else 1) else cntE l n
def grV (l : Nat → Int × Int) (n : Nat) (K : Int) : Nat := if grE l n K = 0 then (grL (nxB l n) n K (2 ^ n) 0).length else 0
section
variable (b off n c : Nat) {cs : List Value} {own : Bool} {l : Nat → Int × Int} {h : List Blk} (hb : h[b]? = some (.cells cs 2 true own)) (hc : SpC cs off n l)
include hb hc
theorem k29 (hn : n ≤ 60) (hn9 : cntE l n = 0 → n ≤ 9) (K : Int) : callH LL 29 [sl b off n c, iv K] h = some ⟨.tuple #[iv (grV l n K : Nat), iv (grE l n K)], h, [b], []⟩ := by
  refine callH_1 rfl hb noIdB_flat (args' := [sl 0 off n c, iv K]) (by simp [renV, dep, optAll, idx, nbeq]) (go (by decide) ?_) (fun _ => rfl)
  have a59 := k59 off n c (own := own) hc hn
  rw [run29 _ _ _ (by simp)]
  unfold grV
  by_cases h1 : cntE l n = 0
  · rw [if_pos h1] at a59
    have hE : grE l n K = if (decide (0 ≤ K) && decide (K ≤ (n : Int))) = true then 0 else 1 := by unfold grE; rw [if_pos h1]
    cases h2 : (decide (0 ≤ K) && decide (K ≤ (n : Int)))
    · rw [h2, if_neg (by decide)] at hE
      rw [hE, if_neg (by decide)]
      simp (maxSteps := 1000000) (disch := first | omega | decide | assumption | simp [scal]) [lenA_sl lk_22, lenA_sl lk_94, a59, k57, h2, fm_ptr, fm_ren, ptrV_map, renV_map]
    · rw [h2, if_pos rfl] at hE
      rw [hE, if_pos rfl]
      obtain ⟨eb', wr, g1, g2, g3⟩ := k64 off n c (own := own) K hc (hn9 h1) [(2 ^ n - 1, 1)] [(0, 1)] invB0
      simp only [LA, wB] at g2
      generalize wm (grL (nxB l n) n K (2 ^ n) 0) = Y at *
      generalize (grL (nxB l n) n K (2 ^ n) 0).length = y at *
      rcases g3 with rfl | rfl
      · simp (maxSteps := 1000000) (disch := first | omega | decide | assumption | simp [scal]) [lenA_sl lk_22, lenA_sl lk_94, a59, k57, h2, g2, fm_ptr, fm_ren, ptrV_map, renV_map]
      · simp (maxSteps := 1000000) (disch := first | omega | decide | assumption | simp [scal]) [lenA_sl lk_22, lenA_sl lk_94, a59, k57, h2, g2, fm_ptr, fm_ren, ptrV_map, renV_map]
  · rw [if_neg h1] at a59
    have hE : grE l n K = cntE l n := by unfold grE; rw [if_neg h1]
    rw [hE, if_neg h1]
    simp (maxSteps := 1000000) (disch := first | omega | decide | assumption | simp [scal]) [lenA_sl lk_22, lenA_sl lk_94, a59, h1]
end
section
variable (off n c : Nat) {cs : List Value} {own : Bool} {l : Nat → Int × Int} (K : Int)
theorem l30 (hn : n ≤ 9) : ∀ (q s a : Nat), s + q = 2 ^ n → a ≤ s →
    lpB Try.prog LL ⟨30, 46, 1, none⟩ n30_26 n30_27 ⟨[(1, iv K), (7, sl 1 0 (2 ^ n) (2 ^ n)), (8, iv a), (9, iv s)], [.cells cs 2 true own, tb (gB (nxB l n) n) (2 ^ n)], []⟩ =
      some (.exit 0, ⟨[(8, iv (a + (grL (nxB l n) n K q s).length : Nat))], [.cells cs 2 true own], []⟩) := by
  have hN2 : 2 ^ n ≤ 512 := by have := Nat.pow_le_pow_right (n := 2) (by decide) hn; omega
  intro q
  induction q with
  | zero =>
    intro s a hs ha
    obtain rfl : s = 2 ^ n := by omega
    simp only [grL, List.length_nil, Nat.add_zero, tb]
    generalize tL (gB (nxB l n) n) (2 ^ n) = U at *
    generalize 2 ^ n = N at *
    rw [lpB_eq]
    simp (maxSteps := 1000000) (disch := first | omega | decide | assumption | simp [scal]) [lenA_sl lk_22, lenA_sl lk_24, o_indexAddrS es_24, loadA_eq ia_3, want_some q30_6g2, want_some q30_36g5]
  | succ q ih =>
    intro s a hs ha
    have e0 : s < 2 ^ n := by omega
    have e1 : (s : Int) < ((2 ^ n : Nat) : Int) := by omega
    have a1 := k66 s (by omega)
    have p1 := tL_get (g := gB (nxB l n) n) e0
    have ul := tL_len (g := gB (nxB l n) n) (N := 2 ^ n)
    by_cases hg : 0 < gB (nxB l n) n s
    · have hg' : (0 : Int) < (gB (nxB l n) n s : Int) := by omega
      by_cases hK : ((sizeN s : Nat) : Int) = K
      · have hK' := eq_true hK
        have hG : inG (nxB l n) n K s = true := by unfold inG; simp [hK, hg]
        have hgr : (grL (nxB l n) n K (q + 1) s).length = (grL (nxB l n) n K q (s + 1)).length + 1 := by simp only [grL, hG, if_true, List.length_cons]
        have this := ih (s + 1) (a + 1) (by omega) (by omega)
        rw [hgr, show a + ((grL (nxB l n) n K q (s + 1)).length + 1) = a + 1 + (grL (nxB l n) n K q (s + 1)).length by omega]
        clear ih hgr hG
        generalize ((a + 1 + (grL (nxB l n) n K q (s + 1)).length : Nat) : Int) = Z at *
        simp only [cast1, tb] at this ⊢
        generalize gB (nxB l n) n s = w at *
        generalize tL (gB (nxB l n) n) (2 ^ n) = U at *
        generalize 2 ^ n = N at *
        have l1 : s < U.length := by omega
        obtain ⟨_, p1⟩ := List.getElem?_eq_some_iff.1 p1
        rw [lpB_eq]
        simp (maxSteps := 1000000) (disch := first | omega | decide | assumption | simp [scal]) [lenA_sl lk_22, lenA_sl lk_24, o_indexAddrS es_24, loadA_eq ia_3, want_some q30_6g2, want_some q30_36g5, e0, e1, a1, l1, ul, p1, hg, hg', hK', this]
      · have hG : inG (nxB l n) n K s = false := by unfold inG; simp [hK]
        have hgr : (grL (nxB l n) n K (q + 1) s).length = (grL (nxB l n) n K q (s + 1)).length := by simp only [grL, hG, Bool.false_eq_true, if_false]
        have this := ih (s + 1) a (by omega) (by omega)
        rw [hgr]
        clear ih hgr hG
        generalize ((a + (grL (nxB l n) n K q (s + 1)).length : Nat) : Int) = Z at *
        simp only [cast1, tb] at this ⊢
        generalize gB (nxB l n) n s = w at *
        generalize tL (gB (nxB l n) n) (2 ^ n) = U at *
        generalize 2 ^ n = N at *
        have l1 : s < U.length := by omega
        obtain ⟨_, p1⟩ := List.getElem?_eq_some_iff.1 p1
        rw [lpB_eq]
        simp (maxSteps := 1000000) (disch := first | omega | decide | assumption | simp [scal]) [lenA_sl lk_22, lenA_sl lk_24, o_indexAddrS es_24, loadA_eq ia_3, want_some q30_6g2, want_some q30_36g5, e0, e1, a1, l1, ul, p1, hg, hg', hK, this]
    · have hg0 : gB (nxB l n) n s = 0 := by omega
      have hG : inG (nxB l n) n K s = false := by unfold inG; simp [hg]
      have hgr : (grL (nxB l n) n K (q + 1) s).length = (grL (nxB l n) n K q (s + 1)).length := by simp only [grL, hG, Bool.false_eq_true, if_false]
      have this := ih (s + 1) a (by omega) (by omega)
      rw [hgr]
      rw [hg0] at p1
      clear ih hgr hG
      generalize ((a + (grL (nxB l n) n K q (s + 1)).length : Nat) : Int) = Z at *
      simp only [cast1, tb, Int.natCast_zero] at this p1 ⊢
      generalize tL (gB (nxB l n) n) (2 ^ n) = U at *
      generalize 2 ^ n = N at *
      have l1 : s < U.length := by omega
      obtain ⟨_, p1⟩ := List.getElem?_eq_some_iff.1 p1
      rw [lpB_eq]
      simp (maxSteps := 1000000) (disch := first | omega | decide | assumption | simp [scal]) [lenA_sl lk_22, lenA_sl lk_24, o_indexAddrS es_24, loadA_eq ia_3, want_some q30_6g2, want_some q30_36g5, e0, e1, a1, l1, ul, p1, this]
end
section
variable (b off n c : Nat) {cs : List Value} {own : Bool} {l : Nat → Int × Int} {h : List Blk} (hb : h[b]? = some (.cells cs 2 true own)) (hc : SpC cs off n l)
include hb hc
theorem k30 (hn : n ≤ 60) (hn9 : cntE l n = 0 → n ≤ 9) (K : Int) : callH LL 30 [sl b off n c, iv K] h = some ⟨.tuple #[iv (grV l n K : Nat), iv (grE l n K)], h, [b], []⟩ := by
  refine callH_1 rfl hb noIdB_flat (args' := [sl 0 off n c, iv K]) (by simp [renV, dep, optAll, idx, nbeq]) (go (by decide) ?_) (fun _ => rfl)
  have a61 := fun bx => k61 0 off n c (h := .cells cs 2 true own :: bx) rfl hc hn
  rw [run30 _ _ _ (by simp)]
  unfold grV
  by_cases h1 : cntE l n = 0
  · rw [h1] at a61
    have hE : grE l n K = if (decide (0 ≤ K) && decide (K ≤ (n : Int))) = true then 0 else 1 := by unfold grE; rw [if_pos h1]
    cases h2 : (decide (0 ≤ K) && decide (K ≤ (n : Int)))
    · rw [h2, if_neg (by decide)] at hE
      rw [hE, if_neg (by decide)]
      simp (maxSteps := 1000000) (disch := first | omega | decide | assumption | simp [scal]) [lenA_sl lk_22, lenA_sl lk_24, o_indexAddrS es_24, loadA_eq ia_3, want_some q30_6g2, want_some q30_36g5, a61, k58, h2]
    · rw [h2, if_pos rfl] at hE
      rw [hE, if_pos rfl]
      have n9 := hn9 h1
      have a65 := k65 0 off n c (h := [.cells cs 2 true own]) rfl hc (by omega)
      have lp := l30 n (cs := cs) (own := own) (l := l) K n9 (2 ^ n) 0 0 (by omega) (by omega)
      simp only [Nat.zero_add, Int.natCast_zero, tb] at lp a65
      generalize (grL (nxB l n) n K (2 ^ n) 0).length = y at *
      generalize tL (gB (nxB l n) n) (2 ^ n) = U at *
      generalize 2 ^ n = N at *
      simp (maxSteps := 1000000) (disch := first | omega | decide | assumption | simp [scal]) [lenA_sl lk_22, lenA_sl lk_24, o_indexAddrS es_24, loadA_eq ia_3, want_some q30_6g2, want_some q30_36g5, a61, k58, h2, a65, lp]
  · have hE : grE l n K = cntE l n := by unfold grE; rw [if_neg h1]
    rw [hE, if_neg h1]
    simp (maxSteps := 1000000) (disch := first | omega | decide | assumption | simp [scal]) [lenA_sl lk_22, lenA_sl lk_24, o_indexAddrS es_24, loadA_eq ia_3, want_some q30_6g2, want_some q30_36g5, a61, h1]
end
theorem tmod_nn {a b : Nat} : (a : Int).tmod b = ((a % b : Nat) : Int) := rfl
theorem tdiv_nn {a b : Nat} : (a : Int).tdiv b = ((a / b : Nat) : Int) := rfl
/-- the reduced form -/
def redV (a b : Nat) : Value := .agg #[iv (a / Nat.gcd a b : Nat), iv (b / Nat.gcd a b : Nat)]
theorem l67 (x y : Nat) : ∀ (b a : Nat), a < 2 ^ 63 → b < 2 ^ 63 →
    lpB Try.prog LL ⟨67, 22, 0, none⟩ n67_6 n67_7 ⟨[(0, iv x), (1, iv y), (4, pp 0), (5, iv a), (6, iv b)], [.cells [iv 0, iv 0] 1 true true], []⟩ =
      some (.exit 0, ⟨[(0, iv x), (1, iv y), (4, pp 0), (5, iv (Nat.gcd b a : Nat))], [.cells [iv 0, iv 0] 1 true true], []⟩) := by
  intro b
  induction b using Nat.strongRecOn with
  | _ b ih =>
    intro a ha hb
    by_cases h0 : b = 0
    · subst h0
      rw [Nat.gcd_zero_left]
      simp only [Int.natCast_zero]
      rw [lpB_eq]
      simp (maxSteps := 1000000) (disch := first | omega | decide | assumption | simp [scal]) [za_42, o_build za_42 pl_42, sz_42, loadA_eq ia_42]
    · have hp : 0 < b := by omega
      have hp' : (0 : Int) < b := by omega
      have hne : ¬ (b : Int) = 0 := by omega
      have hm := Nat.mod_lt a hp
      have this := ih (a % b) hm b hb (by omega)
      have hg : Nat.gcd b a = Nat.gcd (a % b) b := Nat.gcd_rec b a
      have ht := @tmod_nn a b
      rw [hg]
      generalize Nat.gcd (a % b) b = g at *
      generalize ((a % b : Nat) : Int) = r at *
      rw [lpB_eq]
      simp (maxSteps := 1000000) (disch := first | omega | decide | assumption | simp [scal]) [za_42, o_build za_42 pl_42, sz_42, loadA_eq ia_42, hp, hp', hne, ht, this]
theorem k67 (a b : Nat) (ha : a < 2 ^ 63) (hb : b < 2 ^ 63) (h0 : 0 < b) (h : List Blk) : callH LL 67 [iv a, iv b] h = some ⟨redV a b, h, [], []⟩ := by
  refine callH_none rfl (fun _ => rfl) (go (by decide) ?_) fun _ => rfl
  have lp := l67 a b b a ha hb
  have hg : Nat.gcd b a = Nat.gcd a b := Nat.gcd_comm b a
  have hpos : 0 < Nat.gcd a b := Nat.gcd_pos_of_pos_right a h0
  unfold redV
  rw [hg] at lp
  generalize Nat.gcd a b = g at *
  have t1 := @tdiv_nn a g
  have t2 := @tdiv_nn b g
  have b1 := Nat.div_le_self a g
  have b2 := Nat.div_le_self b g
  have w1 : IntKind.i64.wrap ((a / g : Nat) : Int) = ((a / g : Nat) : Int) := wrap_nn (by omega)
  have w2 : IntKind.i64.wrap ((b / g : Nat) : Int) = ((b / g : Nat) : Int) := wrap_nn (by omega)
  have hne : ¬ (g : Int) = 0 := by omega
  generalize ((a / g : Nat) : Int) = q1 at *
  generalize ((b / g : Nat) : Int) = q2 at *
  rw [run67 _ _ _ (by simp)]
  simp (maxSteps := 1000000) (disch := first | omega | decide | assumption | simp [scal]) [za_42, o_build za_42 pl_42, sz_42, loadA_eq ia_42, lp, t1, t2, w1, w2, hne]
theorem l68 (x y : Nat) : ∀ (b a : Nat), a < 2 ^ 63 → b < 2 ^ 63 →
    lpB Try.prog LL ⟨68, 22, 0, none⟩ n68_6 n68_7 ⟨[(0, iv x), (1, iv y), (4, pp 0), (5, iv a), (6, iv b)], [.cells [iv 0, iv 0] 1 true true], []⟩ =
      some (.exit 0, ⟨[(0, iv x), (1, iv y), (4, pp 0), (5, iv (Nat.gcd b a : Nat))], [.cells [iv 0, iv 0] 1 true true], []⟩) := by
  intro b
  induction b using Nat.strongRecOn with
  | _ b ih =>
    intro a ha hb
    by_cases h0 : b = 0
    · subst h0
      rw [Nat.gcd_zero_left]
      simp only [Int.natCast_zero]
      rw [lpB_eq]
      simp (maxSteps := 1000000) (disch := first | omega | decide | assumption | simp [scal]) [za_42, o_build za_42 pl_42, sz_42, loadA_eq ia_42]
    · have hp : 0 < b := by omega
      have hp' : (0 : Int) < b := by omega
      have hne : ¬ (b : Int) = 0 := by omega
      have hm := Nat.mod_lt a hp
      have this := ih (a % b) hm b hb (by omega)
      have hg : Nat.gcd b a = Nat.gcd (a % b) b := Nat.gcd_rec b a
      have ht := @tmod_nn a b
      rw [hg]
      generalize Nat.gcd (a % b) b = g at *
      generalize ((a % b : Nat) : Int) = r at *
      rw [lpB_eq]
      simp (maxSteps := 1000000) (disch := first | omega | decide | assumption | simp [scal]) [za_42, o_build za_42 pl_42, sz_42, loadA_eq ia_42, hp, hp', hne, ht, this]
theorem k68 (a b : Nat) (ha : a < 2 ^ 63) (hb : b < 2 ^ 63) (h0 : 0 < b) (h : List Blk) : callH LL 68 [iv a, iv b] h = some ⟨redV a b, h, [], []⟩ := by
  refine callH_none rfl (fun _ => rfl) (go (by decide) ?_) fun _ => rfl
  have lp := l68 a b b a ha hb
  have hg : Nat.gcd b a = Nat.gcd a b := Nat.gcd_comm b a
  have hpos : 0 < Nat.gcd a b := Nat.gcd_pos_of_pos_right a h0
  unfold redV
  rw [hg] at lp
  generalize Nat.gcd a b = g at *
  have t1 := @tdiv_nn a g
  have t2 := @tdiv_nn b g
  have b1 := Nat.div_le_self a g
  have b2 := Nat.div_le_self b g
  have w1 : IntKind.i64.wrap ((a / g : Nat) : Int) = ((a / g : Nat) : Int) := wrap_nn (by omega)
  have w2 : IntKind.i64.wrap ((b / g : Nat) : Int) = ((b / g : Nat) : Int) := wrap_nn (by omega)
  have hne : ¬ (g : Int) = 0 := by omega
  generalize ((a / g : Nat) : Int) = q1 at *
  generalize ((b / g : Nat) : Int) = q2 at *
  rw [run68 _ _ _ (by simp)]
  simp (maxSteps := 1000000) (disch := first | omega | decide | assumption | simp [scal]) [za_42, o_build za_42 pl_42, sz_42, loadA_eq ia_42, lp, t1, t2, w1, w2, hne]
end Go.Proofs.Ytfccmddkblbeoaa.rk
namespace Go.Proofs.Ytfccmddkblbeoaa.rk
open Go.GE
set_option linter.unusedVariables false
set_option linter.unusedSimpArgs false
set_option linter.unusedSectionVars false
set_option maxRecDepth 100000
set_option maxHeartbeats 4000000
attribute [local simp] runOps_nil runOps_cons runOpsF_nil runOpsF_cons fstS_some fstF_some opStep_eq want_none oStep_true oStep_false fin_pure fin_read fin_alloc fin_write storeB wrN cellV addWr o_move o_assign o_pick o_alloc o_box o_load o_store o_nilCheck o_bin o_un o_extract o_callV o_callB o_callI callV_f callV_y callV_fc o_makeFunc partsA Instr.fill builtin_len builtin_max2 bin_add bin_sub bin_mul bin_quo bin_rem bin_lss bin_leq bin_gtr bin_geq bin_eql bin_neq un_neg un_not bin_shr bin_shl wrap_u64_id opd opds optAll putO nbeq nblt constOk isC ops sub cl cr co bodyOf thenS_normal thenS_ret thenS_exit thenS_goto afterN_normal afterN_ret afterN_exit afterN_goto condS_true condS_false blockS_normal blockS_ret blockS_exit blockS_goto headS normS normK_eq fixS_nil fixS_cons fix1 fixV emptyB keepO_nil keepO_cons roundC_normal roundC_exit roundC_ret roundC_goto sweep_eq sweepD rnm pickR pickW rootsB ptrT renT ptrFn renFn ptrB_flat ptrB_non renB_flat renB_non plainS_some drawS_some fpsOk disj unord range' dropTo enumT undef wrap_i64_id Value.cells mkCells ptrTo scal cellsAt rdN endS_ret resultsA Option.bind_some tupV finish reachN dep ptrL_eq ptrL renL_eq renL ptrV_bool ptrV_int ptrV_string ptrV_nilFunc ptrV_nilIface ptrV_nilPtr ptrV_ptr ptrV_nilSl ptrV_sl ptrV_iface ptrV_agg ptrV_tuple ptrV_func renV_bool renV_int renV_string renV_nilFunc renV_nilIface renV_nilPtr renV_ptr renV_nilSl renV_sl renV_iface renV_agg renV_tuple renV_func gotoS_goto gotoS_normal gotoS_exit gotoS_ret skip_seq sliceE bnd bndHi intOf optOpd keepT_nil keepT_cons keepC_t keepC_f lk_nil lk_cons lkC_t lkC_f has_nil has_cons hasC_t hasC_f rep_nil rep_cons repC_t repC_f put_eq putC_t putC_f mem_nil mem_cons memC_t memC_f idx_nil idx_cons idxC_t idxC_f reach_nil reachP_cons reachQ_t reachQ_f ptrB_dead renB_dead ins_eq
attribute [local simp] n31_1s n31_3s n31_7s n31_10s n31_11s n31_9s n31_13s n31_16s n31_17s n31_15s n31_19s n31_22s n31_23s n31_21s n31_24s n31_20s n31_18s n31_14s n31_12s n31_8s n31_6s n31_5s n31_26s n31_29s n31_33s n31_36s n31_37s n31_35s n31_41s n31_43s n31_45s n31_46s n31_44s n31_42s n31_40s n31_39s n31_47s n31_38s n31_34s n31_32s n31_31s n31_31g n31_30s n31_28s n31_49s n31_50s n31_48s n31_27s n31_25s n31_4s n31_2s n31_0s Try.f31
theorem gR_pos {l : Nat → Int × Int} {n : Nat} (hl : ∀ i, i < n → (l i).1 ≤ (l i).2) : ∀ q M, cntU n M = q → 0 < gR (nxB l n) n M := by
  intro q
  induction q with
  | zero => intro M h; unfold gR; rw [h]; simp [cR]
  | succ q ih =>
    intro M h
    obtain ⟨r, h1, h2, h3, h4⟩ := sel_succ hl h
    have hx := (selK_in n 0 r h1).2.2
    have hsum := gR_sum (nx := nxB l n) (fun _ _ h => nxB_bit h) h
    have h5 := ih (M ||| 2 ^ r) h4
    have key : ∀ (f : Nat → Nat) k j, j ≤ r → r < j + k → f r ≤ cS f k j 0 := by
      intro f k
      induction k with
      | zero => intro j h1 h2; omega
      | succ k ik =>
        intro j h1 h2
        simp only [cS]
        rw [cS_add]
        by_cases e : j = r
        · subst e; omega
        · have := ik (j + 1) (by omega) (by omega); omega
    have h6 := key (fN (nxB l n) n M) n 0 (by omega) (by omega)
    have h7 : fN (nxB l n) n M r = gR (nxB l n) n (M ||| 2 ^ r) := by simp only [fN, hx, cond_true]
    omega
def chE (l : Nat → Int × Int) (n : Nat) (D R : Int) : Int := if cntE l n = 0 then (if (decide (0 ≤ D) && decide (D ≤ (n : Int) - 1)) = true then (if (decide (1 ≤ R) && decide (R ≤ (n : Int))) = true then 0 else 1) else 6) else cntE l n
/-- what a group adds -/
def hF (nx : Nat → Nat → Bool) (n d : Nat) (s : Nat) : Nat := cond (nx s d) (gB nx n s * gR nx n (s ||| 2 ^ d)) 0
def hS (nx : Nat → Nat → Bool) (n d : Nat) (G : List Nat) : Nat → Nat → Nat → Nat
  | 0, _, a => a
  | k + 1, p, a => hS nx n d G k (p + 1) (a + hF nx n d (G.getD p 0))
def chV (l : Nat → Int × Int) (n : Nat) (D R : Int) : Value := if chE l n D R = 0 then redV (hS (nxB l n) n D.toNat (grL (nxB l n) n (R - 1) (2 ^ n) 0) (grL (nxB l n) n (R - 1) (2 ^ n) 0).length 0 0) (gR (nxB l n) n 0) else .agg #[iv 0, iv 0]
theorem hF_le {l : Nat → Int × Int} {n d s : Nat} (hn : n ≤ 9) (hd : d < n) : hF (nxB l n) n d s ≤ 387420489 := by
  unfold hF
  cases h : nxB l n s d
  · exact Nat.zero_le _
  · have hcn := cntU_lt (nxB_bit h) n hd
    have hle := cntU_le (n := n) (M := s)
    have h1 : gB (nxB l n) n s ≤ n ^ (n - cntU n s) := cB_le _ _
    have h2 : gR (nxB l n) n (s ||| 2 ^ d) ≤ n ^ (cntU n (s ||| 2 ^ d)) := cR_le _ _
    have h3 := Nat.mul_le_mul h1 h2
    rw [← Nat.pow_add] at h3
    have h4 : n ^ (n - cntU n s + cntU n (s ||| 2 ^ d)) ≤ 9 ^ 9 := Nat.le_trans (Nat.pow_le_pow_left hn _) (Nat.pow_le_pow_right (by decide) (by omega))
    have h5 : (9 : Nat) ^ 9 = 387420489 := by decide
    simp only [cond_true]
    omega
section
variable (off n c : Nat) {cs : List Value} {own : Bool} {l : Nat → Int × Int}
/-- a counter behind the month and the cell of a result -/
abbrev LC (cs : List Value) (own : Bool) (es eb : List (Nat × Nat)) (rest : List Blk) : List Blk := .cells cs 2 true own :: .cells [iv 0, iv 0] 1 true true :: .cells [sl 0 off n c, pp 3, pp 8] 1 false true :: .cells [.map (some 4), .func (.func 80) #[] #[pp 5, pp 6, pp 7]] 1 false true :: fmB es ::
  .cells [sl 0 off n c] 1 false true :: mayB :: .cells [pp 2] 1 false true :: .cells [.map (some 9), .func (.func 81) #[] #[pp 5, pp 7]] 1 false true :: fmB eb :: rest
theorem rchC1 (es eb : List (Nat × Nat)) (rest : List Blk) : reach (LC off n c cs own es eb rest) 0 reachN [3] [] = [3, 4, 5, 0, 6, 7, 2, 8, 9] := by
  simp only [reachP_cons, nblt, nbeq, mem_nil, mem_cons, memC_t, memC_f, reachQ_f, reachQ_t, Bool.or_false, Bool.or_true, Bool.false_or, Bool.true_or, decide_false, decide_true, Nat.not_lt_zero, rootsB, List.getElem?_cons_succ, List.getElem?_cons_zero, ptrB_non, ptrB_flat, ptrL_eq, ptrL, ptrV_bool, ptrV_int, ptrV_string, ptrV_nilFunc, ptrV_nilIface, ptrV_nilPtr, ptrV_nilSl, ptrV_iface, ptrV_agg, ptrV_tuple, ptrV_func, ptrV_ptr, ptrV_sl, dep, ptrFn, List.nil_append, List.cons_append, List.append_nil, reach_nil, reachN, Nat.reduceEqDiff, Nat.reduceAdd, Nat.reduceSub, reduceCtorEq, Nat.reduceLT, Nat.lt_irrefl, List.flatMap_cons, List.flatMap_nil, optAll, renL_eq, renL, renB_flat, renB_non, renV_bool, renV_int, renV_string, renV_nilFunc, renV_nilIface, renV_nilPtr, renV_ptr, renV_nilSl, renV_sl, renV_iface, renV_agg, renV_tuple, renV_func, renFn, idx_nil, idx_cons, idxC_t, idxC_f, Option.map_some, Option.map_none, fm_ptr, ptrV_map]
theorem pickC1 (es eb : List (Nat × Nat)) (rest : List Blk) : optAll (pickB (LC off n c cs own es eb rest) (idx [3, 4, 5, 0, 6, 7, 2, 8, 9])) [3, 4, 5, 0, 6, 7, 2, 8, 9] = some (HR0 off n c cs own es eb) := by
  simp (maxSteps := 1000000) (disch := first | omega | decide | assumption | simp [scal]) [pickB, renV_map, fm_ren]
theorem askC (hc : SpC cs off n l) (hn : n ≤ 12) (es eb : List (Nat × Nat)) (rest : List Blk) (M : Nat) (hi : InvR (nxB l n) n es) (hM : M < 2 ^ n) : ∃ es' wr, InvR (nxB l n) n es' ∧ ((wr = [] ∧ es' = es) ∨ wr = [4]) ∧
    callH LL 60 [pp 3, wv M] (LC off n c cs own es eb rest) = some ⟨iv (gR (nxB l n) n M : Nat), LC off n c cs own es' eb rest, [3, 4, 5, 0, 6, 7, 2, 8, 9], wr⟩ := by
  obtain ⟨es', ws, i1, i2, i3⟩ := get_ok off n c (own := own) hc hn eb (cntU n M) es M hi hM rfl
  rcases i2 with ⟨rfl, rfl⟩ | rfl
  · exact ⟨es', [], i1, .inl ⟨rfl, rfl⟩, callH_lit (by intro _; first | trivial | rfl) rfl (rchC1 ..) rfl (pickC1 ..) i3 (by simp [mergeB, renV_int, dep, optAll, gR]) (by simp)⟩
  · exact ⟨es', [4], i1, .inr rfl, callH_lit (by intro _; first | trivial | rfl) rfl (rchC1 ..) rfl (pickC1 ..) i3 (by simp [mergeB, renV_int, dep, optAll, fm_ren, gR]) (by simp)⟩
theorem rchC2 (es eb : List (Nat × Nat)) (rest : List Blk) : reach (LC off n c cs own es eb rest) 0 reachN [8] [] = [8, 9, 5, 0, 7, 2, 3, 4, 6] := by
  simp only [reachP_cons, nblt, nbeq, mem_nil, mem_cons, memC_t, memC_f, reachQ_f, reachQ_t, Bool.or_false, Bool.or_true, Bool.false_or, Bool.true_or, decide_false, decide_true, Nat.not_lt_zero, rootsB, List.getElem?_cons_succ, List.getElem?_cons_zero, ptrB_non, ptrB_flat, ptrL_eq, ptrL, ptrV_bool, ptrV_int, ptrV_string, ptrV_nilFunc, ptrV_nilIface, ptrV_nilPtr, ptrV_nilSl, ptrV_iface, ptrV_agg, ptrV_tuple, ptrV_func, ptrV_ptr, ptrV_sl, dep, ptrFn, List.nil_append, List.cons_append, List.append_nil, reach_nil, reachN, Nat.reduceEqDiff, Nat.reduceAdd, Nat.reduceSub, reduceCtorEq, Nat.reduceLT, Nat.lt_irrefl, List.flatMap_cons, List.flatMap_nil, optAll, renL_eq, renL, renB_flat, renB_non, renV_bool, renV_int, renV_string, renV_nilFunc, renV_nilIface, renV_nilPtr, renV_ptr, renV_nilSl, renV_sl, renV_iface, renV_agg, renV_tuple, renV_func, renFn, idx_nil, idx_cons, idxC_t, idxC_f, Option.map_some, Option.map_none, fm_ptr, ptrV_map]
theorem pickC2 (es eb : List (Nat × Nat)) (rest : List Blk) : optAll (pickB (LC off n c cs own es eb rest) (idx [8, 9, 5, 0, 7, 2, 3, 4, 6])) [8, 9, 5, 0, 7, 2, 3, 4, 6] = some (HB0 off n c cs own es eb) := by
  simp (maxSteps := 1000000) (disch := first | omega | decide | assumption | simp [scal]) [pickB, renV_map, fm_ren]
theorem askCB (hc : SpC cs off n l) (hn : n ≤ 12) (es eb : List (Nat × Nat)) (rest : List Blk) (M : Nat) (hi : InvB (nxB l n) n eb) (hM : M < 2 ^ n) : ∃ eb' wr, InvB (nxB l n) n eb' ∧ ((wr = [] ∧ eb' = eb) ∨ wr = [9]) ∧
    callH LL 60 [pp 8, wv M] (LC off n c cs own es eb rest) = some ⟨iv (gB (nxB l n) n M : Nat), LC off n c cs own es eb' rest, [8, 9, 5, 0, 7, 2, 3, 4, 6], wr⟩ := by
  obtain ⟨eb', ws, i1, i2, i3⟩ := getB_ok off n c (own := own) hc hn es (n - cntU n M) eb M hi hM (by have := cntU_le (n := n) (M := M); omega)
  rcases i2 with ⟨rfl, rfl⟩ | rfl
  · exact ⟨eb', [], i1, .inl ⟨rfl, rfl⟩, callH_lit (by intro _; first | trivial | rfl) rfl (rchC2 ..) rfl (pickC2 ..) i3 (by simp [mergeB, renV_int, dep, optAll, gB]) (by simp)⟩
  · exact ⟨eb', [9], i1, .inr rfl, callH_lit (by intro _; first | trivial | rfl) rfl (rchC2 ..) rfl (pickC2 ..) i3 (by simp [mergeB, renV_int, dep, optAll, fm_ren, gB]) (by simp)⟩
theorem l31 (hc : SpC cs off n l) (hn : n ≤ 9) (d : Nat) (hd : d < n) (G : List Nat) (hG : ∀ x, x ∈ G → x < 2 ^ n) (hL : G.length ≤ 512) (B : Nat) (hB : B = 387420489) : ∀ (q p a : Nat) (es eb : List (Nat × Nat)), p + q = G.length → InvR (nxB l n) n es → InvB (nxB l n) n eb → a + q * B ≤ 400000000000 →
    ∃ es' eb', InvR (nxB l n) n es' ∧ InvB (nxB l n) n eb' ∧
    lpB Try.prog LL ⟨31, 79, 1, none⟩ n31_31 n31_32 ⟨[(1, iv d), (6, pp 1), (8, pp 2), (10, iv a), (41, sl 10 0 G.length G.length), (42, iv G.length), (43, iv p)], LC off n c cs own es eb [wB G], []⟩ =
      some (.exit 1, ⟨[(6, pp 1), (8, pp 2), (10, iv (hS (nxB l n) n d G q p a : Nat))], LC off n c cs own es' eb' [], []⟩) := by
  intro q
  induction q with
  | zero =>
    intro p a es eb hp hi hj ha
    obtain rfl : p = G.length := by omega
    refine ⟨es, eb, hi, hj, ?_⟩
    simp only [hS, wB]
    generalize wm G = Y at *
    generalize G.length = y at *
    rw [lpB_eq]
    simp (maxSteps := 1000000) (disch := first | omega | decide | assumption | simp [scal]) [za_42, o_build za_42 pl_42, sz_42, lenA_sl lk_22, lenA_sl lk_94, o_indexAddrS es_94, loadA_eq ia_77, o_fieldAddr fa_90_0 (by decide), loadA_eq ia_78, o_fieldAddr fa_90_2 (by decide), loadA_eq ia_88, o_fieldAddr fa_90_1 (by decide), loadA_eq ia_42, fm_ptr, fm_ren, ptrV_map, renV_map]
  | succ q ih =>
    intro p a es eb hp hi hj ha
    have e0 : p < G.length := by omega
    have e1 : (p : Int) < G.length := by omega
    have p1 := wm_get e0
    have hx := hG (G.getD p 0) (by
      have : G.getD p 0 = G[p] := by simp [e0]
      rw [this]; exact List.getElem_mem e0)
    have hle : hF (nxB l n) n d (G.getD p 0) ≤ B := by rw [hB]; exact hF_le hn hd
    have wl := wm_len (L := G)
    simp only [hS]
    generalize G.getD p 0 = x at *
    have hx32 : x < 2 ^ 32 := Nat.lt_of_lt_of_le hx (Nat.pow_le_pow_right (by decide) (by omega))
    have a1 := fun bx => k53 0 off n c (h := .cells cs 2 true own :: bx) rfl hc (by omega) x d hx32 hd
    have a2 := k54 x d hx32 (by omega)
    rw [Nat.add_mul] at ha
    cases h : nxB l n x d
    · rw [h] at a1
      have hf : hF (nxB l n) n d x = 0 := by simp only [hF, h, cond_false]
      obtain ⟨es', eb', i1, i2, i3⟩ := ih (p + 1) (a + 0) es eb (by omega) hi hj (by omega)
      refine ⟨es', eb', i1, i2, ?_⟩
      rw [hf]
      simp only [cast1, Nat.add_zero, wB] at i3 ⊢
      generalize hS (nxB l n) n d G q (p + 1) a = Z at *
      generalize wm G = Y at *
      generalize G.length = y at *
      have l1 : p < Y.length := by omega
      obtain ⟨_, p1⟩ := List.getElem?_eq_some_iff.1 p1
      clear ih
      rw [lpB_eq]
      simp (maxSteps := 1000000) (disch := first | omega | decide | assumption | simp [scal]) [za_42, o_build za_42 pl_42, sz_42, lenA_sl lk_22, lenA_sl lk_94, o_indexAddrS es_94, loadA_eq ia_77, o_fieldAddr fa_90_0 (by decide), loadA_eq ia_78, o_fieldAddr fa_90_2 (by decide), loadA_eq ia_88, o_fieldAddr fa_90_1 (by decide), loadA_eq ia_42, e0, e1, a1, l1, wl, p1, fm_ptr, fm_ren, ptrV_map, renV_map, i3]
    · rw [h] at a1
      have h2 : x ||| 2 ^ d < 2 ^ n := Nat.or_lt_two_pow hx (Nat.pow_lt_pow_right (by decide) hd)
      obtain ⟨eb1, wr1, g1, g2, g3⟩ := askCB off n c (own := own) hc (by omega) es eb [wB G] x hj hx
      obtain ⟨es1, wr2, g4, g5, g6⟩ := askC off n c (own := own) hc (by omega) es eb1 [wB G] (x ||| 2 ^ d) hi h2
      have hf : hF (nxB l n) n d x = gB (nxB l n) n x * gR (nxB l n) n (x ||| 2 ^ d) := by simp only [hF, h, cond_true]
      obtain ⟨es', eb', i1, i2, i3⟩ := ih (p + 1) (a + hF (nxB l n) n d x) es1 eb1 (by omega) g4 g1 (by omega)
      refine ⟨es', eb', i1, i2, ?_⟩
      rw [hf] at hle i3 ⊢
      clear ih hf
      generalize gB (nxB l n) n x = u at *
      generalize gR (nxB l n) n (x ||| 2 ^ d) = v at *
      generalize x ||| 2 ^ d = x2 at *
      have w1 : IntKind.i64.wrap ((u : Int) * (v : Int)) = ((u * v : Nat) : Int) := by rw [← Int.natCast_mul]; exact wrap_nn (by omega)
      generalize u * v = uv at *
      have w2 : IntKind.i64.wrap ((a : Int) + (uv : Int)) = ((a + uv : Nat) : Int) := by rw [wrap_i64_id (by omega) (by omega)]; rfl
      simp only [cast1, wB] at i3 g3 g6 ⊢
      generalize hS (nxB l n) n d G q (p + 1) (a + uv) = Z at *
      generalize ((a + uv : Nat) : Int) = auv at *
      generalize wm G = Y at *
      generalize G.length = y at *
      have l1 : p < Y.length := by omega
      obtain ⟨_, p1⟩ := List.getElem?_eq_some_iff.1 p1
      rw [lpB_eq]
      rcases g2 with ⟨rfl, rfl⟩ | rfl <;> rcases g5 with ⟨rfl, rfl⟩ | rfl
      · simp (maxSteps := 1000000) (disch := first | omega | decide | assumption | simp [scal]) [za_42, o_build za_42 pl_42, sz_42, lenA_sl lk_22, lenA_sl lk_94, o_indexAddrS es_94, loadA_eq ia_77, o_fieldAddr fa_90_0 (by decide), loadA_eq ia_78, o_fieldAddr fa_90_2 (by decide), loadA_eq ia_88, o_fieldAddr fa_90_1 (by decide), loadA_eq ia_42, e0, e1, a1, a2, l1, wl, p1, g3, g6, w1, w2, fm_ptr, fm_ren, ptrV_map, renV_map, i3]
      · simp (maxSteps := 1000000) (disch := first | omega | decide | assumption | simp [scal]) [za_42, o_build za_42 pl_42, sz_42, lenA_sl lk_22, lenA_sl lk_94, o_indexAddrS es_94, loadA_eq ia_77, o_fieldAddr fa_90_0 (by decide), loadA_eq ia_78, o_fieldAddr fa_90_2 (by decide), loadA_eq ia_88, o_fieldAddr fa_90_1 (by decide), loadA_eq ia_42, e0, e1, a1, a2, l1, wl, p1, g3, g6, w1, w2, fm_ptr, fm_ren, ptrV_map, renV_map, i3]
      · simp (maxSteps := 1000000) (disch := first | omega | decide | assumption | simp [scal]) [za_42, o_build za_42 pl_42, sz_42, lenA_sl lk_22, lenA_sl lk_94, o_indexAddrS es_94, loadA_eq ia_77, o_fieldAddr fa_90_0 (by decide), loadA_eq ia_78, o_fieldAddr fa_90_2 (by decide), loadA_eq ia_88, o_fieldAddr fa_90_1 (by decide), loadA_eq ia_42, e0, e1, a1, a2, l1, wl, p1, g3, g6, w1, w2, fm_ptr, fm_ren, ptrV_map, renV_map, i3]
      · simp (maxSteps := 1000000) (disch := first | omega | decide | assumption | simp [scal]) [za_42, o_build za_42 pl_42, sz_42, lenA_sl lk_22, lenA_sl lk_94, o_indexAddrS es_94, loadA_eq ia_77, o_fieldAddr fa_90_0 (by decide), loadA_eq ia_78, o_fieldAddr fa_90_2 (by decide), loadA_eq ia_88, o_fieldAddr fa_90_1 (by decide), loadA_eq ia_42, e0, e1, a1, a2, l1, wl, p1, g3, g6, w1, w2, fm_ptr, fm_ren, ptrV_map, renV_map, i3]
end
end Go.Proofs.Ytfccmddkblbeoaa.rk
namespace Go.Proofs.Ytfccmddkblbeoaa.rk
open Go.GE
set_option linter.unusedVariables false
set_option linter.unusedSimpArgs false
set_option linter.unusedSectionVars false
set_option maxRecDepth 100000
set_option maxHeartbeats 4000000
attribute [local simp] runOps_nil runOps_cons runOpsF_nil runOpsF_cons fstS_some fstF_some opStep_eq want_none oStep_true oStep_false fin_pure fin_read fin_alloc fin_write storeB wrN cellV addWr o_move o_assign o_pick o_alloc o_box o_load o_store o_nilCheck o_bin o_un o_extract o_callV o_callB o_callI callV_f callV_y callV_fc o_makeFunc partsA Instr.fill builtin_len builtin_max2 bin_add bin_sub bin_mul bin_quo bin_rem bin_lss bin_leq bin_gtr bin_geq bin_eql bin_neq un_neg un_not bin_shr bin_shl wrap_u64_id opd opds optAll putO nbeq nblt constOk isC ops sub cl cr co bodyOf thenS_normal thenS_ret thenS_exit thenS_goto afterN_normal afterN_ret afterN_exit afterN_goto condS_true condS_false blockS_normal blockS_ret blockS_exit blockS_goto headS normS normK_eq fixS_nil fixS_cons fix1 fixV emptyB keepO_nil keepO_cons roundC_normal roundC_exit roundC_ret roundC_goto sweep_eq sweepD rnm pickR pickW rootsB ptrT renT ptrFn renFn ptrB_flat ptrB_non renB_flat renB_non plainS_some drawS_some fpsOk disj unord range' dropTo enumT undef wrap_i64_id Value.cells mkCells ptrTo scal cellsAt rdN endS_ret resultsA Option.bind_some tupV finish reachN dep ptrL_eq ptrL renL_eq renL ptrV_bool ptrV_int ptrV_string ptrV_nilFunc ptrV_nilIface ptrV_nilPtr ptrV_ptr ptrV_nilSl ptrV_sl ptrV_iface ptrV_agg ptrV_tuple ptrV_func renV_bool renV_int renV_string renV_nilFunc renV_nilIface renV_nilPtr renV_ptr renV_nilSl renV_sl renV_iface renV_agg renV_tuple renV_func gotoS_goto gotoS_normal gotoS_exit gotoS_ret skip_seq sliceE bnd bndHi intOf optOpd keepT_nil keepT_cons keepC_t keepC_f lk_nil lk_cons lkC_t lkC_f has_nil has_cons hasC_t hasC_f rep_nil rep_cons repC_t repC_f put_eq putC_t putC_f mem_nil mem_cons memC_t memC_f idx_nil idx_cons idxC_t idxC_f reach_nil reachP_cons reachQ_t reachQ_f ptrB_dead renB_dead ins_eq
attribute [local simp] n64_1s n64_3s n64_6s n64_10s n64_13s n64_14s n64_12s n64_18s n64_20s n64_22s n64_23s n64_21s n64_19s n64_17s n64_16s n64_24s n64_15s n64_11s n64_9s n64_8s n64_8g n64_7s n64_5s n64_26s n64_27s n64_25s n64_4s n64_2s n64_0s Try.f64 n31_1s n31_3s n31_7s n31_10s n31_11s n31_9s n31_13s n31_16s n31_17s n31_15s n31_19s n31_22s n31_23s n31_21s n31_24s n31_20s n31_18s n31_14s n31_12s n31_8s n31_6s n31_5s n31_26s n31_29s n31_33s n31_36s n31_37s n31_35s n31_41s n31_43s n31_45s n31_46s n31_44s n31_42s n31_40s n31_39s n31_47s n31_38s n31_34s n31_32s n31_31s n31_31g n31_30s n31_28s n31_49s n31_50s n31_48s n31_27s n31_25s n31_4s n31_2s n31_0s Try.f31
theorem hS_fold {nx : Nat → Nat → Bool} {n d : Nat} {G : List Nat} : ∀ q p a, p + q = G.length → hS nx n d G q p a = (G.drop p).foldl (fun a x => a + hF nx n d x) a := by
  intro q
  induction q with
  | zero => intro p a h; rw [List.drop_of_length_le (by omega)]; rfl
  | succ q ih =>
    intro p a h
    have hp : p < G.length := by omega
    rw [List.drop_eq_getElem_cons hp, List.foldl_cons]
    simp only [hS]
    rw [ih (p + 1) _ (by omega)]
    have : G.getD p 0 = G[p] := by simp [hp]
    rw [this]
/-- what a set adds in the reference -/
def rF (nx : Nat → Nat → Bool) (n d : Nat) (K : Int) (s : Nat) : Nat := cond (decide (((sizeN s : Nat) : Int) = K)) (hF nx n d s) 0
theorem gr_fold {nx : Nat → Nat → Bool} {n d : Nat} {K : Int} : ∀ q s a, (grL nx n K q s).foldl (fun a x => a + hF nx n d x) a = cS (rF nx n d K) q s a := by
  intro q
  induction q with
  | zero => intro s a; rfl
  | succ q ih =>
    intro s a
    simp only [grL, cS]
    by_cases h : inG nx n K s = true
    · rw [if_pos h, List.foldl_cons, ih]
      have : rF nx n d K s = hF nx n d s := by
        unfold inG at h
        simp only [Bool.and_eq_true] at h
        unfold rF; rw [h.1]; rfl
      rw [this]
    · rw [if_neg h, ih]
      have : rF nx n d K s = 0 := by
        unfold rF
        by_cases hK : ((sizeN s : Nat) : Int) = K
        · have hg : gB nx n s = 0 := by
            unfold inG at h
            simp [hK] at h
            omega
          unfold hF
          rw [hg]
          cases nx s d <;> simp
        · simp [hK]
      simp only [this, Nat.add_zero]
theorem ch_sum {nx : Nat → Nat → Bool} {n d : Nat} {K : Int} : hS nx n d (grL nx n K (2 ^ n) 0) (grL nx n K (2 ^ n) 0).length 0 0 = cS (rF nx n d K) (2 ^ n) 0 0 := by
  rw [hS_fold _ 0 0 (by omega), List.drop_zero, gr_fold]
theorem rF_le {l : Nat → Int × Int} {n d s : Nat} {K : Int} (hn : n ≤ 9) (hd : d < n) : rF (nxB l n) n d K s ≤ 387420489 := by
  unfold rF
  cases decide (((sizeN s : Nat) : Int) = K)
  · exact Nat.zero_le _
  · exact hF_le hn hd
theorem open9 {n : Nat} (hn : n ≤ 9) : 2 ^ n ≤ 512 := by have := Nat.pow_le_pow_right (n := 2) (by decide) hn; omega
section
variable (off n c : Nat) {cs : List Value} {own : Bool} {l : Nat → Int × Int} (K : Int)
theorem rchCG (es eb : List (Nat × Nat)) (rest : List Blk) : reach (LC off n c cs own es eb rest) 0 reachN [2] [] = [2, 0, 3, 4, 5, 6, 7, 8, 9] := by
  simp only [reachP_cons, nblt, nbeq, mem_nil, mem_cons, memC_t, memC_f, reachQ_f, reachQ_t, Bool.or_false, Bool.or_true, Bool.false_or, Bool.true_or, decide_false, decide_true, Nat.not_lt_zero, rootsB, List.getElem?_cons_succ, List.getElem?_cons_zero, ptrB_non, ptrB_flat, ptrL_eq, ptrL, ptrV_bool, ptrV_int, ptrV_string, ptrV_nilFunc, ptrV_nilIface, ptrV_nilPtr, ptrV_nilSl, ptrV_iface, ptrV_agg, ptrV_tuple, ptrV_func, ptrV_ptr, ptrV_sl, dep, ptrFn, List.nil_append, List.cons_append, List.append_nil, reach_nil, reachN, Nat.reduceEqDiff, Nat.reduceAdd, Nat.reduceSub, reduceCtorEq, Nat.reduceLT, Nat.lt_irrefl, List.flatMap_cons, List.flatMap_nil, optAll, renL_eq, renL, renB_flat, renB_non, renV_bool, renV_int, renV_string, renV_nilFunc, renV_nilIface, renV_nilPtr, renV_ptr, renV_nilSl, renV_sl, renV_iface, renV_agg, renV_tuple, renV_func, renFn, idx_nil, idx_cons, idxC_t, idxC_f, Option.map_some, Option.map_none, fm_ptr, ptrV_map]
theorem pickCG (es eb : List (Nat × Nat)) (rest : List Blk) : optAll (pickB (LC off n c cs own es eb rest) (idx [2, 0, 3, 4, 5, 6, 7, 8, 9])) [2, 0, 3, 4, 5, 6, 7, 8, 9] = some (LG off n c cs own es eb []) := by
  simp (maxSteps := 1000000) (disch := first | omega | decide | assumption | simp [scal]) [pickB, renV_map, fm_ren]
theorem k64C (hc : SpC cs off n l) (hn : n ≤ 9) (es eb : List (Nat × Nat)) (hi : InvB (nxB l n) n eb) : ∃ eb' wr, InvB (nxB l n) n eb' ∧
    callH LL 64 [pp 2, iv K] (LC off n c cs own es eb []) = some ⟨sl 10 0 (grL (nxB l n) n K (2 ^ n) 0).length (grL (nxB l n) n K (2 ^ n) 0).length, LC off n c cs own es eb' [wB (grL (nxB l n) n K (2 ^ n) 0)], [2, 0, 3, 4, 5, 6, 7, 8, 9], wr⟩ ∧ (wr = [] ∨ wr = [9]) := by
  obtain ⟨eb', wr', i1, i2, i3⟩ := l64 off n c (own := own) K hc hn es (2 ^ n) 0 [] eb [] (by omega) hi (.inl rfl) (by simp)
  have f3 := shl_poww (J := n) (by omega)
  simp only [List.nil_append, List.length_nil, wB, wm_nil] at i3 ⊢
  generalize wm (grL (nxB l n) n K (2 ^ n) 0) = Y at *
  generalize (grL (nxB l n) n K (2 ^ n) 0).length = y at *
  rw [show wv 0 = .int .u32 0 from rfl, show wv (2 ^ n) = .int .u32 ((2 ^ n : Nat) : Int) from rfl] at i3
  generalize ((2 ^ n : Nat) : Int) = N at *
  rcases i2 with ⟨rfl, rfl⟩ | rfl
  · have hrun : LL.run 64 [pp 0, iv K] (LG off n c cs own es eb' []) = some ⟨sl 9 0 y y, [.cells Y 1 true true], []⟩ := by
      refine go (by decide) ?_
      rw [run64 _ _ _ (by simp)]
      simp (maxSteps := 1000000) (disch := first | omega | decide | assumption | simp [scal]) [o_fieldAddr fa_90_0 (by decide), loadA_eq ia_78, lenA_sl lk_78, o_fieldAddr fa_90_2 (by decide), loadA_eq ia_88, o_indexAddrS es_94, ze_94, o_buildSlice es_94 ze_94 (by decide) ba_94_1, ap_94, builtin_append ni_94, want_some q64_20g4, f3, i3, fm_ptr, fm_ren, ptrV_map, renV_map]
    exact ⟨eb', [], i1, callH_lit (by intro _; first | trivial | rfl) rfl (rchCG ..) rfl (pickCG ..) hrun (by simp [mergeB, renV_sl, dep, optAll, renB_flat]) (by simp), .inl rfl⟩
  · have hrun : LL.run 64 [pp 0, iv K] (LG off n c cs own es eb []) = some ⟨sl 9 0 y y, [.cells Y 1 true true], [(8, fmB eb')]⟩ := by
      refine go (by decide) ?_
      rw [run64 _ _ _ (by simp)]
      simp (maxSteps := 1000000) (disch := first | omega | decide | assumption | simp [scal]) [o_fieldAddr fa_90_0 (by decide), loadA_eq ia_78, lenA_sl lk_78, o_fieldAddr fa_90_2 (by decide), loadA_eq ia_88, o_indexAddrS es_94, ze_94, o_buildSlice es_94 ze_94 (by decide) ba_94_1, ap_94, builtin_append ni_94, want_some q64_20g4, f3, i3, fm_ptr, fm_ren, ptrV_map, renV_map]
    exact ⟨eb', [9], i1, callH_lit (by intro _; first | trivial | rfl) rfl (rchCG ..) rfl (pickCG ..) hrun (by simp [mergeB, renV_sl, dep, optAll, renB_flat, fm_ren]) (by simp), .inr rfl⟩
end
section
variable (b off n c : Nat) {cs : List Value} {own : Bool} {l : Nat → Int × Int} {h : List Blk} (hb : h[b]? = some (.cells cs 2 true own)) (hc : SpC cs off n l)
include hb hc
theorem k31 (hn : n ≤ 60) (hn9 : cntE l n = 0 → n ≤ 9) (D R : Int) : callH LL 31 [sl b off n c, iv D, iv R] h = some ⟨.tuple #[chV l n D R, iv (chE l n D R)], h, [b], []⟩ := by
  have hrv : ∀ g, renV g dep (.tuple #[chV l n D R, iv (chE l n D R)]) = some (.tuple #[chV l n D R, iv (chE l n D R)]) := by
    intro g
    unfold chV
    split <;> rfl
  refine callH_1 rfl hb noIdB_flat (args' := [sl 0 off n c, iv D, iv R]) (by simp [renV, dep, optAll, idx, nbeq]) (go (by decide) ?_) hrv
  have a59 := k59' off n c (own := own) hc hn (.cells [iv 0, iv 0] 1 true true)
  rw [run31 _ _ _ (by simp)]
  unfold chV
  by_cases h1 : cntE l n = 0
  · rw [if_pos h1] at a59
    obtain ⟨hck, _, n1⟩ := cntE_ok h1
    have n9 := hn9 h1
    have hw0 : IntKind.i64.wrap ((n : Int) - 1) = (n : Int) - 1 := wrap_i64_id (by omega) (by omega)
    cases h2 : (decide (0 ≤ D) && decide (D ≤ (n : Int) - 1))
    · have hE : chE l n D R = 6 := by unfold chE; rw [if_pos h1, h2]; rfl
      rw [hE, if_neg (by decide)]
      simp (maxSteps := 1000000) (disch := first | omega | decide | assumption | simp [scal]) [za_42, o_build za_42 pl_42, sz_42, lenA_sl lk_22, lenA_sl lk_94, o_indexAddrS es_94, loadA_eq ia_77, o_fieldAddr fa_90_0 (by decide), loadA_eq ia_78, o_fieldAddr fa_90_2 (by decide), loadA_eq ia_88, o_fieldAddr fa_90_1 (by decide), loadA_eq ia_42, a59, k57, h2, hw0, fm_ptr, fm_ren, ptrV_map, renV_map]
    · cases h3 : (decide (1 ≤ R) && decide (R ≤ (n : Int)))
      · have hE : chE l n D R = 1 := by unfold chE; rw [if_pos h1, h2, h3]; rfl
        rw [hE, if_neg (by decide)]
        simp (maxSteps := 1000000) (disch := first | omega | decide | assumption | simp [scal]) [za_42, o_build za_42 pl_42, sz_42, lenA_sl lk_22, lenA_sl lk_94, o_indexAddrS es_94, loadA_eq ia_77, o_fieldAddr fa_90_0 (by decide), loadA_eq ia_78, o_fieldAddr fa_90_2 (by decide), loadA_eq ia_88, o_fieldAddr fa_90_1 (by decide), loadA_eq ia_42, a59, k57, h2, h3, hw0, fm_ptr, fm_ren, ptrV_map, renV_map]
      · have hE : chE l n D R = 0 := by unfold chE; rw [if_pos h1, h2, h3]; rfl
        rw [hE, if_pos rfl]
        simp only [Bool.and_eq_true, decide_eq_true_eq] at h2 h3
        have h2a := h2.2
        obtain ⟨d, rfl⟩ : ∃ d : Nat, D = (d : Int) := ⟨D.toNat, by omega⟩
        have hd : d < n := by omega
        have hwR : IntKind.i64.wrap (R - 1) = R - 1 := wrap_i64_id (by omega) (by omega)
        have h2' : (decide ((0 : Int) ≤ (d : Int)) && decide ((d : Int) ≤ (n : Int) - 1)) = true := by simp [h2.1, h2.2]
        have h3' : (decide ((1 : Int) ≤ R) && decide (R ≤ (n : Int))) = true := by simp [h3.1, h3.2]
        rw [Int.toNat_natCast]
        obtain ⟨eb1, wr1, g1, g2, g3⟩ := k64C off n c (own := own) (R - 1) hc n9 [(2 ^ n - 1, 1)] [(0, 1)] invB0
        have hlen := grL_len (nx := nxB l n) (n := n) (K := R - 1) (2 ^ n) 0
        have hp := open9 n9
        obtain ⟨es2, eb2, i1, i2, i3⟩ := l31 off n c (own := own) hc n9 d hd (grL (nxB l n) n (R - 1) (2 ^ n) 0) (fun x hx => by have := grL_mem _ _ _ hx; omega) (by omega) 387420489 rfl (grL (nxB l n) n (R - 1) (2 ^ n) 0).length 0 0 [(2 ^ n - 1, 1)] eb1 (by omega) inv0 g1 (by omega)
        obtain ⟨es3, wr3, j1, j2, j3⟩ := askC off n c (own := own) hc (by omega) es2 eb2 [] 0 i1 (Nat.two_pow_pos n)
        have hsum := @ch_sum (nxB l n) n d (R - 1)
        have hbd : cS (rF (nxB l n) n d (R - 1)) (2 ^ n) 0 0 ≤ 512 * 387420489 := by
          have := cS_le (f := rF (nxB l n) n d (R - 1)) (B := 387420489) (fun i => rF_le n9 hd) (2 ^ n) 0 0
          have h4 : 2 ^ n * 387420489 ≤ 512 * 387420489 := Nat.mul_le_mul hp (Nat.le_refl _)
          rw [Nat.zero_add] at this
          exact Nat.le_trans this h4
        rw [← hsum] at hbd
        have hgp := gR_pos (chk_le hck) n 0 cntU_zero
        have hgl : gR (nxB l n) n 0 ≤ 8916100448256 := gR_le (by omega)
        generalize hS (nxB l n) n d (grL (nxB l n) n (R - 1) (2 ^ n) 0) (grL (nxB l n) n (R - 1) (2 ^ n) 0).length 0 0 = u at *
        generalize gR (nxB l n) n 0 = v at *
        have a67 := k67 u v (by omega) (by omega) hgp
        unfold redV at *
        simp only [Int.natCast_zero, LC, wB] at g2 i3 j3 ⊢
        rw [show wv 0 = .int .u32 0 from rfl] at j3
        clear hsum hbd hlen hE
        generalize u / Nat.gcd u v = q1 at *
        generalize v / Nat.gcd u v = q2 at *
        generalize wm (grL (nxB l n) n (R - 1) (2 ^ n) 0) = Y at *
        generalize (grL (nxB l n) n (R - 1) (2 ^ n) 0).length = y at *
        rcases g3 with rfl | rfl <;> rcases j2 with ⟨rfl, rfl⟩ | rfl
        · simp (maxSteps := 1000000) (disch := first | omega | decide | assumption | simp [scal]) [za_42, o_build za_42 pl_42, sz_42, lenA_sl lk_22, lenA_sl lk_94, o_indexAddrS es_94, loadA_eq ia_77, o_fieldAddr fa_90_0 (by decide), loadA_eq ia_78, o_fieldAddr fa_90_2 (by decide), loadA_eq ia_88, o_fieldAddr fa_90_1 (by decide), loadA_eq ia_42, a59, k57, h2a, h2', h3', hw0, hwR, g2, i3, j3, a67, fm_ptr, fm_ren, ptrV_map, renV_map]
        · simp (maxSteps := 1000000) (disch := first | omega | decide | assumption | simp [scal]) [za_42, o_build za_42 pl_42, sz_42, lenA_sl lk_22, lenA_sl lk_94, o_indexAddrS es_94, loadA_eq ia_77, o_fieldAddr fa_90_0 (by decide), loadA_eq ia_78, o_fieldAddr fa_90_2 (by decide), loadA_eq ia_88, o_fieldAddr fa_90_1 (by decide), loadA_eq ia_42, a59, k57, h2a, h2', h3', hw0, hwR, g2, i3, j3, a67, fm_ptr, fm_ren, ptrV_map, renV_map]
        · simp (maxSteps := 1000000) (disch := first | omega | decide | assumption | simp [scal]) [za_42, o_build za_42 pl_42, sz_42, lenA_sl lk_22, lenA_sl lk_94, o_indexAddrS es_94, loadA_eq ia_77, o_fieldAddr fa_90_0 (by decide), loadA_eq ia_78, o_fieldAddr fa_90_2 (by decide), loadA_eq ia_88, o_fieldAddr fa_90_1 (by decide), loadA_eq ia_42, a59, k57, h2a, h2', h3', hw0, hwR, g2, i3, j3, a67, fm_ptr, fm_ren, ptrV_map, renV_map]
        · simp (maxSteps := 1000000) (disch := first | omega | decide | assumption | simp [scal]) [za_42, o_build za_42 pl_42, sz_42, lenA_sl lk_22, lenA_sl lk_94, o_indexAddrS es_94, loadA_eq ia_77, o_fieldAddr fa_90_0 (by decide), loadA_eq ia_78, o_fieldAddr fa_90_2 (by decide), loadA_eq ia_88, o_fieldAddr fa_90_1 (by decide), loadA_eq ia_42, a59, k57, h2a, h2', h3', hw0, hwR, g2, i3, j3, a67, fm_ptr, fm_ren, ptrV_map, renV_map]
  · rw [if_neg h1] at a59
    have hE : chE l n D R = cntE l n := by unfold chE; rw [if_neg h1]
    rw [hE, if_neg h1]
    simp (maxSteps := 1000000) (disch := first | omega | decide | assumption | simp [scal]) [za_42, o_build za_42 pl_42, sz_42, lenA_sl lk_22, lenA_sl lk_94, o_indexAddrS es_94, loadA_eq ia_77, o_fieldAddr fa_90_0 (by decide), loadA_eq ia_78, o_fieldAddr fa_90_2 (by decide), loadA_eq ia_88, o_fieldAddr fa_90_1 (by decide), loadA_eq ia_42, a59, h1]
end
end Go.Proofs.Ytfccmddkblbeoaa.rk
namespace Go.Proofs.Ytfccmddkblbeoaa.rk
open Go.GE
set_option linter.unusedVariables false
set_option linter.unusedSimpArgs false
set_option linter.unusedSectionVars false
set_option maxRecDepth 100000
set_option maxHeartbeats 4000000
attribute [local simp] runOps_nil runOps_cons runOpsF_nil runOpsF_cons fstS_some fstF_some opStep_eq want_none oStep_true oStep_false fin_pure fin_read fin_alloc fin_write storeB wrN cellV addWr o_move o_assign o_pick o_alloc o_box o_load o_store o_nilCheck o_bin o_un o_extract o_callV o_callB o_callI callV_f callV_y callV_fc o_makeFunc partsA Instr.fill builtin_len builtin_max2 bin_add bin_sub bin_mul bin_quo bin_rem bin_lss bin_leq bin_gtr bin_geq bin_eql bin_neq un_neg un_not bin_shr bin_shl wrap_u64_id opd opds optAll putO nbeq nblt constOk isC ops sub cl cr co bodyOf thenS_normal thenS_ret thenS_exit thenS_goto afterN_normal afterN_ret afterN_exit afterN_goto condS_true condS_false blockS_normal blockS_ret blockS_exit blockS_goto headS normS normK_eq fixS_nil fixS_cons fix1 fixV emptyB keepO_nil keepO_cons roundC_normal roundC_exit roundC_ret roundC_goto sweep_eq sweepD rnm pickR pickW rootsB ptrT renT ptrFn renFn ptrB_flat ptrB_non renB_flat renB_non plainS_some drawS_some fpsOk disj unord range' dropTo enumT undef wrap_i64_id Value.cells mkCells ptrTo scal cellsAt rdN endS_ret resultsA Option.bind_some tupV finish reachN dep ptrL_eq ptrL renL_eq renL ptrV_bool ptrV_int ptrV_string ptrV_nilFunc ptrV_nilIface ptrV_nilPtr ptrV_ptr ptrV_nilSl ptrV_sl ptrV_iface ptrV_agg ptrV_tuple ptrV_func renV_bool renV_int renV_string renV_nilFunc renV_nilIface renV_nilPtr renV_ptr renV_nilSl renV_sl renV_iface renV_agg renV_tuple renV_func gotoS_goto gotoS_normal gotoS_exit gotoS_ret skip_seq sliceE bnd bndHi intOf optOpd keepT_nil keepT_cons keepC_t keepC_f lk_nil lk_cons lkC_t lkC_f has_nil has_cons hasC_t hasC_f rep_nil rep_cons repC_t repC_f put_eq putC_t putC_f mem_nil mem_cons memC_t memC_f idx_nil idx_cons idxC_t idxC_f reach_nil reachP_cons reachQ_t reachQ_f ptrB_dead renB_dead ins_eq
attribute [local simp] n32_1s n32_3s n32_6s n32_8s n32_9s n32_7s n32_5s n32_12s n32_14s n32_15s n32_13s n32_11s n32_18s n32_21s n32_22s n32_20s n32_23s n32_19s n32_17s n32_25s n32_27s n32_30s n32_35s n32_37s n32_38s n32_36s n32_34s n32_42s n32_44s n32_45s n32_43s n32_41s n32_40s n32_46s n32_39s n32_33s n32_32s n32_32g n32_31s n32_29s n32_48s n32_49s n32_47s n32_28s n32_26s n32_24s n32_16s n32_10s n32_4s n32_2s n32_0s Try.f32
section
variable (off n c : Nat) {cs : List Value} {own : Bool} {l : Nat → Int × Int}
theorem l32 (hc : SpC cs off n l) (hn : n ≤ 9) (d : Nat) (hd : d < n) (R : Int) (hR : 1 ≤ R ∧ R ≤ n) (B : Nat) (hB : B = 387420489) : ∀ (q s a : Nat), s + q = 2 ^ n → a + q * B ≤ 400000000000 →
    lpB Try.prog LL ⟨32, 78, 1, none⟩ n32_32 n32_33 ⟨[(0, sl 0 off n c), (1, iv d), (2, iv R), (6, pp 1), (9, sl 2 0 (2 ^ n) (2 ^ n)), (10, sl 3 0 (2 ^ n) (2 ^ n)), (11, iv a), (12, iv s)], [.cells cs 2 true own, .cells [iv 0, iv 0] 1 true true, tb (gB (nxB l n) n) (2 ^ n), tb (gR (nxB l n) n) (2 ^ n)], []⟩ =
      some (.exit 0, ⟨[(6, pp 1), (10, sl 2 0 (2 ^ n) (2 ^ n)), (11, iv (cS (rF (nxB l n) n d (R - 1)) q s a : Nat))], [.cells cs 2 true own, .cells [iv 0, iv 0] 1 true true, tb (gR (nxB l n) n) (2 ^ n)], []⟩) := by
  have hN2 := open9 hn
  have hwR : IntKind.i64.wrap (R - 1) = R - 1 := wrap_i64_id (by omega) (by omega)
  intro q
  induction q with
  | zero =>
    intro s a hs ha
    obtain rfl : s = 2 ^ n := by omega
    simp only [cS, tb]
    generalize tL (gB (nxB l n) n) (2 ^ n) = U at *
    generalize tL (gR (nxB l n) n) (2 ^ n) = V at *
    generalize 2 ^ n = N at *
    rw [lpB_eq]
    simp (maxSteps := 1000000) (disch := first | omega | decide | assumption | simp [scal]) [za_42, lenA_sl lk_22, o_build za_42 pl_42, sz_42, lenA_sl lk_24, o_indexAddrS es_24, loadA_eq ia_3, loadA_eq ia_42, want_some q32_6g2, want_some q32_12g2, want_some q32_42g5]
  | succ q ih =>
    intro s a hs ha
    have e0 : s < 2 ^ n := by omega
    have e1 : (s : Int) < ((2 ^ n : Nat) : Int) := by omega
    have a1 := k66 s (by omega)
    have a2 := fun bx => k63 0 off n c (h := .cells cs 2 true own :: bx) rfl hc (by omega) s d (by omega) hd
    have p1 := tL_get (g := gB (nxB l n) n) e0
    have ul := tL_len (g := gB (nxB l n) n) (N := 2 ^ n)
    have vl := tL_len (g := gR (nxB l n) n) (N := 2 ^ n)
    have hle : rF (nxB l n) n d (R - 1) s ≤ B := by rw [hB]; exact rF_le hn hd
    rw [Nat.add_mul] at ha
    have this := ih (s + 1) (a + rF (nxB l n) n d (R - 1) s) (by omega) (by omega)
    simp only [cS]
    by_cases hK : ((sizeN s : Nat) : Int) = R - 1
    · have hK' := eq_true hK
      cases h : nxB l n s d
      · rw [h] at a2
        have hf : rF (nxB l n) n d (R - 1) s = 0 := by simp only [rF, hF, hK, h, decide_true, cond_true, cond_false]
        simp only [hf, Nat.add_zero, cast1, tb] at this ⊢
        clear ih hf hle
        generalize cS (rF (nxB l n) n d (R - 1)) q (s + 1) a = Z at *
        generalize tL (gB (nxB l n) n) (2 ^ n) = U at *
        generalize tL (gR (nxB l n) n) (2 ^ n) = V at *
        generalize 2 ^ n = N at *
        rw [lpB_eq]
        simp (maxSteps := 1000000) (disch := first | omega | decide | assumption | simp [scal]) [za_42, lenA_sl lk_22, o_build za_42 pl_42, sz_42, lenA_sl lk_24, o_indexAddrS es_24, loadA_eq ia_3, loadA_eq ia_42, want_some q32_6g2, want_some q32_12g2, want_some q32_42g5, e0, e1, a1, a2, hwR, hK', this]
      · rw [h] at a2
        have h2 : s ||| 2 ^ d < 2 ^ n := Nat.or_lt_two_pow e0 (Nat.pow_lt_pow_right (by decide) hd)
        have hf : rF (nxB l n) n d (R - 1) s = gB (nxB l n) n s * gR (nxB l n) n (s ||| 2 ^ d) := by simp only [rF, hF, hK, h, decide_true, cond_true]
        have p2 := tL_get (g := gR (nxB l n) n) h2
        have s1 := shl_powi (J := d) (by omega)
        have s2 := fun cc => @bin_ori Try.prog 3 cc s (2 ^ d) (by omega) (Nat.pow_lt_pow_right (by decide) (by omega))
        rw [hf] at hle this ⊢
        clear ih hf
        generalize gB (nxB l n) n s = u at *
        generalize gR (nxB l n) n (s ||| 2 ^ d) = v at *
        have w1 : IntKind.i64.wrap ((u : Int) * (v : Int)) = ((u * v : Nat) : Int) := by rw [← Int.natCast_mul]; exact wrap_nn (by omega)
        generalize u * v = uv at *
        have w2 : IntKind.i64.wrap ((a : Int) + (uv : Int)) = ((a + uv : Nat) : Int) := by rw [wrap_i64_id (by omega) (by omega)]; rfl
        simp only [cast1, tb] at this ⊢
        generalize cS (rF (nxB l n) n d (R - 1)) q (s + 1) (a + uv) = Z at *
        generalize ((a + uv : Nat) : Int) = auv at *
        generalize tL (gB (nxB l n) n) (2 ^ n) = U at *
        generalize tL (gR (nxB l n) n) (2 ^ n) = V at *
        generalize s ||| 2 ^ d = S2 at *
        generalize ((2 ^ d : Nat) : Int) = J2 at *
        generalize 2 ^ n = N at *
        have l1 : s < U.length := by omega
        have l2 : S2 < V.length := by omega
        obtain ⟨_, p1⟩ := List.getElem?_eq_some_iff.1 p1
        obtain ⟨_, p2⟩ := List.getElem?_eq_some_iff.1 p2
        rw [lpB_eq]
        simp (maxSteps := 1000000) (disch := first | omega | decide | assumption | simp [scal]) [za_42, lenA_sl lk_22, o_build za_42 pl_42, sz_42, lenA_sl lk_24, o_indexAddrS es_24, loadA_eq ia_3, loadA_eq ia_42, want_some q32_6g2, want_some q32_12g2, want_some q32_42g5, e0, e1, a1, a2, hwR, hK', l1, l2, ul, vl, h2, p1, p2, s1, s2, w1, w2, this]
    · have hf : rF (nxB l n) n d (R - 1) s = 0 := by simp only [rF, hK, decide_false, cond_false]
      simp only [hf, Nat.add_zero, cast1, tb] at this ⊢
      clear ih hf hle
      generalize cS (rF (nxB l n) n d (R - 1)) q (s + 1) a = Z at *
      generalize tL (gB (nxB l n) n) (2 ^ n) = U at *
      generalize tL (gR (nxB l n) n) (2 ^ n) = V at *
      generalize 2 ^ n = N at *
      rw [lpB_eq]
      simp (maxSteps := 1000000) (disch := first | omega | decide | assumption | simp [scal]) [za_42, lenA_sl lk_22, o_build za_42 pl_42, sz_42, lenA_sl lk_24, o_indexAddrS es_24, loadA_eq ia_3, loadA_eq ia_42, want_some q32_6g2, want_some q32_12g2, want_some q32_42g5, e0, e1, a1, hwR, hK, this]
end
section
variable (b off n c : Nat) {cs : List Value} {own : Bool} {l : Nat → Int × Int} {h : List Blk} (hb : h[b]? = some (.cells cs 2 true own)) (hc : SpC cs off n l)
include hb hc
theorem k32 (hn : n ≤ 60) (hn9 : cntE l n = 0 → n ≤ 9) (D R : Int) : callH LL 32 [sl b off n c, iv D, iv R] h = some ⟨.tuple #[chV l n D R, iv (chE l n D R)], h, [b], []⟩ := by
  have hrv : ∀ g, renV g dep (.tuple #[chV l n D R, iv (chE l n D R)]) = some (.tuple #[chV l n D R, iv (chE l n D R)]) := by
    intro g
    unfold chV
    split <;> rfl
  refine callH_1 rfl hb noIdB_flat (args' := [sl 0 off n c, iv D, iv R]) (by simp [renV, dep, optAll, idx, nbeq]) (go (by decide) ?_) hrv
  have a61 := fun bx => k61 0 off n c (h := .cells cs 2 true own :: bx) rfl hc hn
  rw [run32 _ _ _ (by simp)]
  unfold chV
  by_cases h1 : cntE l n = 0
  · rw [h1] at a61
    obtain ⟨hck, _, n1⟩ := cntE_ok h1
    have n9 := hn9 h1
    have hw0 : IntKind.i64.wrap ((n : Int) - 1) = (n : Int) - 1 := wrap_i64_id (by omega) (by omega)
    cases h2 : (decide (0 ≤ D) && decide (D ≤ (n : Int) - 1))
    · have hE : chE l n D R = 6 := by unfold chE; rw [if_pos h1, h2]; rfl
      rw [hE, if_neg (by decide)]
      simp (maxSteps := 1000000) (disch := first | omega | decide | assumption | simp [scal]) [za_42, lenA_sl lk_22, o_build za_42 pl_42, sz_42, lenA_sl lk_24, o_indexAddrS es_24, loadA_eq ia_3, loadA_eq ia_42, want_some q32_6g2, want_some q32_12g2, want_some q32_42g5, a61, k58, h2, hw0]
    · cases h3 : (decide (1 ≤ R) && decide (R ≤ (n : Int)))
      · have hE : chE l n D R = 1 := by unfold chE; rw [if_pos h1, h2, h3]; rfl
        rw [hE, if_neg (by decide)]
        simp (maxSteps := 1000000) (disch := first | omega | decide | assumption | simp [scal]) [za_42, lenA_sl lk_22, o_build za_42 pl_42, sz_42, lenA_sl lk_24, o_indexAddrS es_24, loadA_eq ia_3, loadA_eq ia_42, want_some q32_6g2, want_some q32_12g2, want_some q32_42g5, a61, k58, h2, h3, hw0]
      · have hE : chE l n D R = 0 := by unfold chE; rw [if_pos h1, h2, h3]; rfl
        rw [hE, if_pos rfl]
        simp only [Bool.and_eq_true, decide_eq_true_eq] at h2 h3
        have h2a := h2.2
        obtain ⟨d, rfl⟩ : ∃ d : Nat, D = (d : Int) := ⟨D.toNat, by omega⟩
        have hd : d < n := by omega
        have h2' : (decide ((0 : Int) ≤ (d : Int)) && decide ((d : Int) ≤ (n : Int) - 1)) = true := by simp [h2.1, h2.2]
        have h3' : (decide ((1 : Int) ≤ R) && decide (R ≤ (n : Int))) = true := by simp [h3.1, h3.2]
        rw [Int.toNat_natCast, ch_sum]
        have hp := open9 n9
        have a65 := fun b1 => k65 0 off n c (h := [.cells cs 2 true own, b1]) rfl hc (by omega)
        have a62 := fun b1 b2 => k62 0 off n c (h := [.cells cs 2 true own, b1, b2]) rfl hc (by omega)
        have h4 : 2 ^ n * 387420489 ≤ 512 * 387420489 := Nat.mul_le_mul hp (Nat.le_refl _)
        have hbd : cS (rF (nxB l n) n d (R - 1)) (2 ^ n) 0 0 ≤ 512 * 387420489 := by
          have := cS_le (f := rF (nxB l n) n d (R - 1)) (B := 387420489) (fun i => rF_le n9 hd) (2 ^ n) 0 0
          rw [Nat.zero_add] at this
          exact Nat.le_trans this h4
        have lp := l32 off n c (own := own) hc n9 d hd R h3 387420489 rfl (2 ^ n) 0 0 (by omega) (by omega)
        have hgp := gR_pos (chk_le hck) n 0 cntU_zero
        have hgl : gR (nxB l n) n 0 ≤ 8916100448256 := gR_le (by omega)
        have hN : 1 ≤ 2 ^ n := Nat.two_pow_pos n
        have p1 := tL_get (g := gR (nxB l n) n) hN
        have ul := tL_len (g := gR (nxB l n) n) (N := 2 ^ n)
        generalize cS (rF (nxB l n) n d (R - 1)) (2 ^ n) 0 0 = u at *
        generalize gR (nxB l n) n 0 = v at *
        have a68 := k68 u v (by omega) (by omega) hgp
        unfold redV at *
        simp only [Int.natCast_zero, tb] at a65 a62 lp ⊢
        clear hbd hE h4
        generalize u / Nat.gcd u v = q1 at *
        generalize v / Nat.gcd u v = q2 at *
        generalize tL (gB (nxB l n) n) (2 ^ n) = U at *
        generalize tL (gR (nxB l n) n) (2 ^ n) = V at *
        generalize 2 ^ n = N at *
        have l1 : 0 < V.length := by omega
        have l2 : (0 : Int) < N := by omega
        have l3 : 0 < N := by omega
        obtain ⟨_, p1⟩ := List.getElem?_eq_some_iff.1 p1
        simp (maxSteps := 1000000) (disch := first | omega | decide | assumption | simp [scal]) [za_42, lenA_sl lk_22, o_build za_42 pl_42, sz_42, lenA_sl lk_24, o_indexAddrS es_24, loadA_eq ia_3, loadA_eq ia_42, want_some q32_6g2, want_some q32_12g2, want_some q32_42g5, a61, k58, h2a, h2', h3', hw0, a65, a62, lp, l1, l2, l3, ul, p1, a68]
  · have hE : chE l n D R = cntE l n := by unfold chE; rw [if_neg h1]
    rw [hE, if_neg h1]
    simp (maxSteps := 1000000) (disch := first | omega | decide | assumption | simp [scal]) [za_42, lenA_sl lk_22, o_build za_42 pl_42, sz_42, lenA_sl lk_24, o_indexAddrS es_24, loadA_eq ia_3, loadA_eq ia_42, want_some q32_6g2, want_some q32_12g2, want_some q32_42g5, a61, h1]
end
end Go.Proofs.Ytfccmddkblbeoaa.rk
