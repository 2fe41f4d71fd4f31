/-
  Contracts of functions of the program at the limit evaluator. No condition.
-/
import Derived.Test.YtfccmddkblbeoaaRCN
import Derived.Test.YtfccmddkblbeoaaE40
namespace Go.Proofs.Ytfccmddkblbeoaa.rk
open Go.GE
set_option linter.unusedVariables false
set_option linter.unusedSimpArgs false
set_option linter.unusedSectionVars false
set_option maxRecDepth 100000
set_option maxHeartbeats 4000000
attribute [local simp] runOps_nil runOps_cons runOpsF_nil runOpsF_cons fstS_some fstF_some opStep_eq want_none oStep_true oStep_false fin_pure fin_read fin_alloc fin_write storeB wrN cellV addWr o_move o_assign o_pick o_alloc o_box o_load o_store o_nilCheck o_bin o_un o_extract o_callV o_callB o_callI callV_f callV_y callV_fc o_makeFunc partsA Instr.fill builtin_len builtin_max2 bin_add bin_sub bin_mul bin_quo bin_rem bin_lss bin_leq bin_gtr bin_geq bin_eql bin_neq un_neg un_not bin_shr bin_shl wrap_u64_id opd opds optAll putO nbeq nblt constOk isC ops sub cl cr co bodyOf thenS_normal thenS_ret thenS_exit thenS_goto afterN_normal afterN_ret afterN_exit afterN_goto condS_true condS_false blockS_normal blockS_ret blockS_exit blockS_goto headS normS normK_eq fixS_nil fixS_cons fix1 fixV emptyB keepO_nil keepO_cons roundC_normal roundC_exit roundC_ret roundC_goto sweep_eq sweepD rnm pickR pickW rootsB ptrT renT ptrFn renFn ptrB_flat ptrB_non renB_flat renB_non plainS_some drawS_some fpsOk disj unord range' dropTo enumT undef wrap_i64_id Value.cells mkCells ptrTo scal cellsAt rdN endS_ret resultsA Option.bind_some tupV finish reachN dep ptrL_eq ptrL renL_eq renL ptrV_bool ptrV_int ptrV_string ptrV_nilFunc ptrV_nilIface ptrV_nilPtr ptrV_ptr ptrV_nilSl ptrV_sl ptrV_iface ptrV_agg ptrV_tuple ptrV_func renV_bool renV_int renV_string renV_nilFunc renV_nilIface renV_nilPtr renV_ptr renV_nilSl renV_sl renV_iface renV_agg renV_tuple renV_func gotoS_goto gotoS_normal gotoS_exit gotoS_ret skip_seq sliceE bnd bndHi intOf optOpd keepT_nil keepT_cons keepC_t keepC_f lk_nil lk_cons lkC_t lkC_f has_nil has_cons hasC_t hasC_f rep_nil rep_cons repC_t repC_f put_eq putC_t putC_f mem_nil mem_cons memC_t memC_f idx_nil idx_cons idxC_t idxC_f reach_nil reachP_cons reachQ_t reachQ_f ptrB_dead renB_dead ins_eq
attribute [local simp] n57_1s n57_3s n57_4s n57_2s n57_0s Try.f57 n58_1s n58_3s n58_4s n58_2s n58_0s Try.f58 n75_1s n75_3s n75_4s n75_2s n75_0s Try.f75 n82_1s n82_4s n82_8s n82_11s n82_12s n82_10s n82_16s n82_18s n82_21s n82_22s n82_20s n82_23s n82_19s n82_17s n82_15s n82_14s n82_24s n82_13s n82_9s n82_7s n82_6s n82_6g n82_5s n82_3s n82_26s n82_27s n82_25s n82_2s n82_0s Try.f82
theorem other {f : FuncId} (hf : (14 : Nat) ≠ f) (a : List Value) (h : List Blk) : (wk.wtab.keep kpT).run f a h = none := by
  show GE.tabR [wk.ew] f a h = none
  have : Nat.beq wk.ew.f f = false := GE.beq_false.2 hf
  simp only [tabR, this, Bool.false_and, cond_false]
theorem go {f : FuncId} {args : List Value} {h : List Blk} {r : RR} (hf : (14 : Nat) ≠ f) (he : runB Try.prog LL f args h = some r) : LL.run f args h = some r := L_run (other hf _ _) he
theorem k14 (h : List Blk) : callH LL 14 [] h = some ⟨.bool true, h, [], []⟩ := callH_plain (L_tab rfl) rfl rfl
abbrev sl (b off n c : Nat) : Value := .slice (some ⟨b, off, none⟩) n c
abbrev pp (b : Nat) : Value := .pointer (some ⟨b, 0, none⟩)
/-- cells of spans -/
def SpC (cs : List Value) (off n : Nat) (l : Nat → Int × Int) : Prop := ∀ i, i < n → cs[off + i * 2]? = some (iv (l i).1) ∧ cs[off + i * 2 + 1]? = some (iv (l i).2)
/-- cells of integers -/
def InC (cs : List Value) (off n : Nat) (o : Nat → Int) : Prop := ∀ i, i < n → cs[off + i]? = some (iv (o i))
theorem k57 (a b c : Int) (h : List Blk) : callH LL 57 [iv a, iv b, iv c] h = some ⟨.bool (decide (a ≤ b) && decide (b ≤ c)), h, [], []⟩ := by
  refine callH_plain (go (by decide) ?_) rfl rfl
  rw [run57 _ _ _ (by simp)]
  by_cases h1 : a ≤ b <;> by_cases h2 : b ≤ c <;>
  simp (maxSteps := 1000000) (disch := first | omega | decide | assumption | simp [scal]) [want_some q57_3g3, h1, h2]
theorem k58 (a b c : Int) (h : List Blk) : callH LL 58 [iv a, iv b, iv c] h = some ⟨.bool (decide (b ≤ a) && decide (a ≤ c)), h, [], []⟩ := by
  refine callH_plain (go (by decide) ?_) rfl rfl
  rw [run58 _ _ _ (by simp)]
  by_cases h1 : b ≤ a <;> by_cases h2 : a ≤ c <;>
  simp (maxSteps := 1000000) (disch := first | omega | decide | assumption | simp [scal]) [want_some q58_3g3, h1, h2]
/-- a month's day that is not valid -/
def bad (s : Int × Int) : Bool := !(decide (0 ≤ s.1) && decide (s.1 ≤ s.2)) || decide (100000 < s.2)
theorem k75 (x y : Int) (h : List Blk) : callH LL 75 [.agg #[iv x, iv y]] h = some ⟨.bool (bad (x, y)), h, [], []⟩ := by
  refine callH_none rfl (fun _ => rfl) (go (by decide) ?_) fun _ => rfl
  rw [run75 _ _ _ (by simp)]
  cases h1 : (decide (0 ≤ x) && decide (x ≤ y))
  · simp (maxSteps := 1000000) (disch := first | omega | decide | assumption | simp [scal]) [o_fieldAddr fa_55_0 (by decide), loadA_eq ia_3, o_fieldAddr fa_55_1 (by decide), want_some q75_3g6, h1, k57, bad]
  · by_cases h2 : (100000 : Int) < y
    · simp (maxSteps := 1000000) (disch := first | omega | decide | assumption | simp [scal]) [o_fieldAddr fa_55_0 (by decide), loadA_eq ia_3, o_fieldAddr fa_55_1 (by decide), want_some q75_3g6, h1, h2, k57, bad]
    · simp (maxSteps := 1000000) (disch := first | omega | decide | assumption | simp [scal]) [o_fieldAddr fa_55_0 (by decide), loadA_eq ia_3, o_fieldAddr fa_55_1 (by decide), want_some q75_3g6, h1, h2, k57, bad]
def idxL (l : Nat → Int × Int) : Nat → Nat → Int
  | 0, _ => -1
  | k + 1, i => if bad (l i) = true then i else idxL l k (i + 1)
def anyB (l : Nat → Int × Int) : Nat → Nat → Bool
  | 0, _ => false
  | k + 1, i => bad (l i) || anyB l k (i + 1)
theorem idx_any {l : Nat → Int × Int} : ∀ k i, decide (0 ≤ idxL l k i) = anyB l k i := by
  intro k
  induction k with
  | zero => intro i; rfl
  | succ k ih =>
    intro i
    unfold idxL anyB
    cases h : bad (l i)
    · simp [ih]
    · simp
section
variable (off n c : Nat) (cs : List Value) (own : Bool) (l : Nat → Int × Int)
theorem l82 (hc : SpC cs off n l) (hn : n ≤ 60) : ∀ k i : Nat, i + k = n →
    lpB Try.prog LL ⟨82, 19, 1, none⟩ n82_6 n82_7 ⟨[(0, sl 0 off n c), (1, .func (.func 75) #[] #[]), (7, iv n), (8, iv i)], [.cells cs 2 true own], []⟩ =
      if idxL l k i = -1 then some (.exit 0, ⟨[], [.cells cs 2 true own], []⟩) else some (.ret, ⟨[(4, iv (idxL l k i))], [.cells cs 2 true own], []⟩) := by
  intro k
  induction k with
  | zero =>
    intro i hi
    obtain rfl : i = n := by omega
    rw [lpB_eq]
    simp (maxSteps := 1000000) (disch := first | omega | decide | assumption | simp [scal]) [lenA_sl lk_22, o_indexAddrS es_22, loadA_eq ia_55, idxL]
  | succ k ih =>
    intro i hi
    have e1 : i < n := by omega
    have this := ih (i + 1) (by omega)
    obtain ⟨e2, e3⟩ := hc i e1
    obtain ⟨x, y, hxy⟩ : ∃ x y, l i = (x, y) := ⟨_, _, rfl⟩
    rw [hxy] at e2 e3
    unfold idxL
    rw [hxy]
    rw [lpB_eq]
    simp only [cast1] at this
    cases h1 : bad (x, y)
    · simp (maxSteps := 1000000) (disch := first | omega | decide | assumption | simp [scal]) [lenA_sl lk_22, o_indexAddrS es_22, loadA_eq ia_55, e1, e2, e3, k75, h1, this]
    · have : ¬ ((i : Int) = -1) := by omega
      simp (maxSteps := 1000000) (disch := first | omega | decide | assumption | simp [scal]) [lenA_sl lk_22, o_indexAddrS es_22, loadA_eq ia_55, e1, e2, e3, k75, h1, this]
end
end Go.Proofs.Ytfccmddkblbeoaa.rk
namespace Go.Proofs.Ytfccmddkblbeoaa.rk
open Go.GE
set_option linter.unusedVariables false
set_option linter.unusedSimpArgs false
set_option linter.unusedSectionVars false
set_option maxRecDepth 100000
set_option maxHeartbeats 4000000
attribute [local simp] runOps_nil runOps_cons runOpsF_nil runOpsF_cons fstS_some fstF_some opStep_eq want_none oStep_true oStep_false fin_pure fin_read fin_alloc fin_write storeB wrN cellV addWr o_move o_assign o_pick o_alloc o_box o_load o_store o_nilCheck o_bin o_un o_extract o_callV o_callB o_callI callV_f callV_y callV_fc o_makeFunc partsA Instr.fill builtin_len builtin_max2 bin_add bin_sub bin_mul bin_quo bin_rem bin_lss bin_leq bin_gtr bin_geq bin_eql bin_neq un_neg un_not bin_shr bin_shl wrap_u64_id opd opds optAll putO nbeq nblt constOk isC ops sub cl cr co bodyOf thenS_normal thenS_ret thenS_exit thenS_goto afterN_normal afterN_ret afterN_exit afterN_goto condS_true condS_false blockS_normal blockS_ret blockS_exit blockS_goto headS normS normK_eq fixS_nil fixS_cons fix1 fixV emptyB keepO_nil keepO_cons roundC_normal roundC_exit roundC_ret roundC_goto sweep_eq sweepD rnm pickR pickW rootsB ptrT renT ptrFn renFn ptrB_flat ptrB_non renB_flat renB_non plainS_some drawS_some fpsOk disj unord range' dropTo enumT undef wrap_i64_id Value.cells mkCells ptrTo scal cellsAt rdN endS_ret resultsA Option.bind_some tupV finish reachN dep ptrL_eq ptrL renL_eq renL ptrV_bool ptrV_int ptrV_string ptrV_nilFunc ptrV_nilIface ptrV_nilPtr ptrV_ptr ptrV_nilSl ptrV_sl ptrV_iface ptrV_agg ptrV_tuple ptrV_func renV_bool renV_int renV_string renV_nilFunc renV_nilIface renV_nilPtr renV_ptr renV_nilSl renV_sl renV_iface renV_agg renV_tuple renV_func gotoS_goto gotoS_normal gotoS_exit gotoS_ret skip_seq sliceE bnd bndHi intOf optOpd keepT_nil keepT_cons keepC_t keepC_f lk_nil lk_cons lkC_t lkC_f has_nil has_cons hasC_t hasC_f rep_nil rep_cons repC_t repC_f put_eq putC_t putC_f mem_nil mem_cons memC_t memC_f idx_nil idx_cons idxC_t idxC_f reach_nil reachP_cons reachQ_t reachQ_f ptrB_dead renB_dead ins_eq
attribute [local simp] n82_1s n82_4s n82_8s n82_11s n82_12s n82_10s n82_16s n82_18s n82_21s n82_22s n82_20s n82_23s n82_19s n82_17s n82_15s n82_14s n82_24s n82_13s n82_9s n82_7s n82_6s n82_6g n82_5s n82_3s n82_26s n82_27s n82_25s n82_2s n82_0s Try.f82 n74_1s n74_3s n74_4s n74_2s n74_0s Try.f74 n45_1s n45_5s n45_8s n45_9s n45_7s n45_11s n45_14s n45_15s n45_13s n45_17s n45_20s n45_21s n45_19s n45_22s n45_18s n45_16s n45_12s n45_10s n45_6s n45_4s n45_3s n45_24s n45_25s n45_23s n45_2s n45_0s Try.f45 n77_1s n77_3s n77_4s n77_2s n77_0s Try.f77 n55_1s n55_3s n55_4s n55_2s n55_0s Try.f55 n50_1s n50_4s n50_7s n50_8s n50_6s n50_9s n50_5s n50_3s n50_12s n50_15s n50_16s n50_14s n50_17s n50_13s n50_11s n50_20s n50_25s n50_27s n50_28s n50_26s n50_24s n50_32s n50_35s n50_36s n50_34s n50_37s n50_33s n50_31s n50_30s n50_38s n50_29s n50_23s n50_22s n50_22g n50_21s n50_19s n50_40s n50_41s n50_39s n50_18s n50_10s n50_2s n50_0s Try.f50
/-- a month's check -/
def chkS (l : Nat → Int × Int) (n : Nat) : Int := if n = 0 then 2 else if 30 < n then 3 else if anyB l n 0 = true then 1 else 0
def quiet (l : Nat → Int × Int) (i k : Nat) : Bool := decide ((l i).2 < (l k).1)
section
variable (b off n c : Nat) {cs : List Value} {own : Bool} {l : Nat → Int × Int} {h : List Blk} (hb : h[b]? = some (.cells cs 2 true own)) (hc : SpC cs off n l)
include hb hc
theorem k82 (hn : n ≤ 60) : callH LL 82 [sl b off n c, .func (.func 75) #[] #[]] h = some ⟨iv (idxL l n 0), h, [b], []⟩ := by
  refine callH_1 rfl hb noIdB_flat (args' := [sl 0 off n c, .func (.func 75) #[] #[]]) (by simp [renV, dep, optAll, idx, nbeq]) (go (by decide) ?_) fun _ => rfl
  rw [run82 _ _ _ (by simp)]
  have this := l82 off n c cs own l hc hn n 0 (by omega)
  by_cases h1 : idxL l n 0 = -1
  · rw [if_pos h1] at this
    simp only [Int.natCast_zero] at this
    rw [h1]
    simp (maxSteps := 1000000) (disch := first | omega | decide | assumption | simp [scal]) [lenA_sl lk_22, o_indexAddrS es_22, loadA_eq ia_55, this]
  · rw [if_neg h1] at this
    simp only [Int.natCast_zero] at this
    simp (maxSteps := 1000000) (disch := first | omega | decide | assumption | simp [scal]) [lenA_sl lk_22, o_indexAddrS es_22, loadA_eq ia_55, this]
theorem k74 (hn : n ≤ 60) : callH LL 74 [sl b off n c, .func (.func 75) #[] #[]] h = some ⟨.bool (anyB l n 0), h, [b], []⟩ := by
  refine callH_1 rfl hb noIdB_flat (args' := [sl 0 off n c, .func (.func 75) #[] #[]]) (by simp [renV, dep, optAll, idx, nbeq]) (go (by decide) ?_) fun _ => rfl
  rw [run74 _ _ _ (by simp)]
  have a := k82 0 off n c (h := [.cells cs 2 true own]) rfl hc hn
  have e := idx_any (l := l) n 0
  generalize idxL l n 0 = x at *
  rw [← e]
  by_cases h1 : 0 ≤ x <;>
  simp (maxSteps := 1000000) (disch := first | omega | decide | assumption | simp [scal]) [a, h1]
theorem k45 (hn : n ≤ 60) : callH LL 45 [sl b off n c] h = some ⟨iv (chkS l n), h, [b], []⟩ := by
  refine callH_1 rfl hb noIdB_flat (args' := [sl 0 off n c]) (by simp [renV, dep, optAll, idx, nbeq]) (go (by decide) ?_) fun _ => rfl
  rw [run45 _ _ _ (by simp)]
  unfold chkS
  by_cases h1 : n = 0
  · subst h1
    simp (maxSteps := 1000000) (disch := first | omega | decide | assumption | simp [scal]) [lenA_sl lk_22]
  have h1' : ¬ ((n : Int) = 0) := by omega
  by_cases h2 : 30 < n
  · have h2' : (30 : Int) < n := by omega
    simp (maxSteps := 1000000) (disch := first | omega | decide | assumption | simp [scal]) [lenA_sl lk_22, h1, h1', h2, h2']
  have h2' : ¬ (30 : Int) < n := by omega
  have a := k74 0 off n c (h := [.cells cs 2 true own]) rfl hc hn
  cases h3 : anyB l n 0 <;> rw [h3] at a
  · simp (maxSteps := 1000000) (disch := first | omega | decide | assumption | simp [scal]) [lenA_sl lk_22, h1, h1', h2, h2', a]
  · simp (maxSteps := 1000000) (disch := first | omega | decide | assumption | simp [scal]) [lenA_sl lk_22, h1, h1', h2, h2', a]
theorem k77 (i k : Nat) (hi : i < n) (hk : k < n) : callH LL 77 [sl b off n c, iv i, iv k] h = some ⟨.bool (quiet l i k), h, [b], []⟩ := by
  refine callH_1 rfl hb noIdB_flat (args' := [sl 0 off n c, iv i, iv k]) (by simp [renV, dep, optAll, idx, nbeq]) (go (by decide) ?_) fun _ => rfl
  rw [run77 _ _ _ (by simp)]
  obtain ⟨e1, e2⟩ := hc i hi
  obtain ⟨e3, e4⟩ := hc k hk
  by_cases h1 : (l i).2 < (l k).1 <;>
  simp (maxSteps := 1000000) (disch := first | omega | decide | assumption | simp [scal]) [o_indexAddrS es_78, o_fieldAddr fa_55_1 (by decide), loadA_eq ia_3, o_fieldAddr fa_55_0 (by decide), hi, hk, e1, e2, e3, e4, quiet, h1]
theorem k55 (i k : Nat) (hi : i < n) (hk : k < n) : callH LL 55 [sl b off n c, iv i, iv k] h = some ⟨.bool (quiet l i k), h, [b], []⟩ := by
  refine callH_1 rfl hb noIdB_flat (args' := [sl 0 off n c, iv i, iv k]) (by simp [renV, dep, optAll, idx, nbeq]) (go (by decide) ?_) fun _ => rfl
  rw [run55 _ _ _ (by simp)]
  obtain ⟨e1, e2⟩ := hc i hi
  obtain ⟨e3, e4⟩ := hc k hk
  by_cases h1 : (l i).2 < (l k).1 <;>
  simp (maxSteps := 1000000) (disch := first | omega | decide | assumption | simp [scal]) [o_indexAddrS es_22, o_fieldAddr fa_55_1 (by decide), loadA_eq ia_3, o_fieldAddr fa_55_0 (by decide), hi, hk, e1, e2, e3, e4, quiet, h1]
end
section
variable (off n c : Nat) (cs : List Value) (own : Bool) (l : Nat → Int × Int)
theorem l50 (hc : SpC cs off n l) (hn : n ≤ 60) : ∀ k i : Nat, i + k = n →
    lpB Try.prog LL ⟨50, 36, 1, none⟩ n50_22 n50_23 ⟨[(0, sl 0 off n c), (3, iv i)], [.cells cs 2 true own], []⟩ =
      if anyB l k i = false then some (.exit 0, ⟨[], [.cells cs 2 true own], []⟩) else some (.ret, ⟨[(2, iv 1)], [.cells cs 2 true own], []⟩) := by
  intro k
  induction k with
  | zero =>
    intro i hi
    obtain rfl : i = n := by omega
    rw [lpB_eq]
    simp (maxSteps := 1000000) (disch := first | omega | decide | assumption | simp [scal]) [lenA_sl lk_22, o_indexAddrS es_22, o_fieldAddr fa_55_0 (by decide), loadA_eq ia_3, o_fieldAddr fa_55_1 (by decide), want_some q50_32g12, anyB]
  | succ k ih =>
    intro i hi
    have e1 : i < n := by omega
    have e1' : (i : Int) < n := by omega
    have this := ih (i + 1) (by omega)
    obtain ⟨e2, e3⟩ := hc i e1
    obtain ⟨x, y, hxy⟩ : ∃ x y, l i = (x, y) := ⟨_, _, rfl⟩
    rw [hxy] at e2 e3
    unfold anyB
    rw [hxy]
    simp only [cast1] at this
    rw [lpB_eq]
    cases h1 : (decide (0 ≤ x) && decide (x ≤ y))
    · simp (maxSteps := 1000000) (disch := first | omega | decide | assumption | simp [scal]) [lenA_sl lk_22, o_indexAddrS es_22, o_fieldAddr fa_55_0 (by decide), loadA_eq ia_3, o_fieldAddr fa_55_1 (by decide), want_some q50_32g12, e1, e1', e2, e3, k58, h1, bad]
    · by_cases h2 : (100000 : Int) < y
      · simp (maxSteps := 1000000) (disch := first | omega | decide | assumption | simp [scal]) [lenA_sl lk_22, o_indexAddrS es_22, o_fieldAddr fa_55_0 (by decide), loadA_eq ia_3, o_fieldAddr fa_55_1 (by decide), want_some q50_32g12, e1, e1', e2, e3, k58, h1, h2, bad]
      · simp (maxSteps := 1000000) (disch := first | omega | decide | assumption | simp [scal]) [lenA_sl lk_22, o_indexAddrS es_22, o_fieldAddr fa_55_0 (by decide), loadA_eq ia_3, o_fieldAddr fa_55_1 (by decide), want_some q50_32g12, e1, e1', e2, e3, k58, h1, h2, bad, this]
end
section
variable (b off n c : Nat) {cs : List Value} {own : Bool} {l : Nat → Int × Int} {h : List Blk} (hb : h[b]? = some (.cells cs 2 true own)) (hc : SpC cs off n l)
include hb hc
theorem k50 (hn : n ≤ 60) : callH LL 50 [sl b off n c] h = some ⟨iv (chkS l n), h, [b], []⟩ := by
  refine callH_1 rfl hb noIdB_flat (args' := [sl 0 off n c]) (by simp [renV, dep, optAll, idx, nbeq]) (go (by decide) ?_) fun _ => rfl
  rw [run50 _ _ _ (by simp)]
  unfold chkS
  by_cases h1 : n = 0
  · subst h1
    simp (maxSteps := 1000000) (disch := first | omega | decide | assumption | simp [scal]) [lenA_sl lk_22, o_indexAddrS es_22, o_fieldAddr fa_55_0 (by decide), loadA_eq ia_3, o_fieldAddr fa_55_1 (by decide), want_some q50_32g12]
  have h1' : ¬ ((n : Int) = 0) := by omega
  by_cases h2 : 30 < n
  · have h2' : (30 : Int) < n := by omega
    simp (maxSteps := 1000000) (disch := first | omega | decide | assumption | simp [scal]) [lenA_sl lk_22, o_indexAddrS es_22, o_fieldAddr fa_55_0 (by decide), loadA_eq ia_3, o_fieldAddr fa_55_1 (by decide), want_some q50_32g12, h1, h1', h2, h2']
  have h2' : ¬ (30 : Int) < n := by omega
  have this := l50 off n c cs own l hc hn n 0 (by omega)
  simp only [Int.natCast_zero] at this
  cases h3 : anyB l n 0 <;> rw [h3] at this
  · simp (maxSteps := 1000000) (disch := first | omega | decide | assumption | simp [scal]) [lenA_sl lk_22, o_indexAddrS es_22, o_fieldAddr fa_55_0 (by decide), loadA_eq ia_3, o_fieldAddr fa_55_1 (by decide), want_some q50_32g12, h1, h1', h2, h2', this]
  · simp (maxSteps := 1000000) (disch := first | omega | decide | assumption | simp [scal]) [lenA_sl lk_22, o_indexAddrS es_22, o_fieldAddr fa_55_0 (by decide), loadA_eq ia_3, o_fieldAddr fa_55_1 (by decide), want_some q50_32g12, h1, h1', h2, h2', this]
end
end Go.Proofs.Ytfccmddkblbeoaa.rk
namespace Go.Proofs.Ytfccmddkblbeoaa.rk
open Go.GE
set_option linter.unusedVariables false
set_option linter.unusedSimpArgs false
set_option linter.unusedSectionVars false
set_option maxRecDepth 100000
set_option maxHeartbeats 4000000
attribute [local simp] runOps_nil runOps_cons runOpsF_nil runOpsF_cons fstS_some fstF_some opStep_eq want_none oStep_true oStep_false fin_pure fin_read fin_alloc fin_write storeB wrN cellV addWr o_move o_assign o_pick o_alloc o_box o_load o_store o_nilCheck o_bin o_un o_extract o_callV o_callB o_callI callV_f callV_y callV_fc o_makeFunc partsA Instr.fill builtin_len builtin_max2 bin_add bin_sub bin_mul bin_quo bin_rem bin_lss bin_leq bin_gtr bin_geq bin_eql bin_neq un_neg un_not bin_shr bin_shl wrap_u64_id opd opds optAll putO nbeq nblt constOk isC ops sub cl cr co bodyOf thenS_normal thenS_ret thenS_exit thenS_goto afterN_normal afterN_ret afterN_exit afterN_goto condS_true condS_false blockS_normal blockS_ret blockS_exit blockS_goto headS normS normK_eq fixS_nil fixS_cons fix1 fixV emptyB keepO_nil keepO_cons roundC_normal roundC_exit roundC_ret roundC_goto sweep_eq sweepD rnm pickR pickW rootsB ptrT renT ptrFn renFn ptrB_flat ptrB_non renB_flat renB_non plainS_some drawS_some fpsOk disj unord range' dropTo enumT undef wrap_i64_id Value.cells mkCells ptrTo scal cellsAt rdN endS_ret resultsA Option.bind_some tupV finish reachN dep ptrL_eq ptrL renL_eq renL ptrV_bool ptrV_int ptrV_string ptrV_nilFunc ptrV_nilIface ptrV_nilPtr ptrV_ptr ptrV_nilSl ptrV_sl ptrV_iface ptrV_agg ptrV_tuple ptrV_func renV_bool renV_int renV_string renV_nilFunc renV_nilIface renV_nilPtr renV_ptr renV_nilSl renV_sl renV_iface renV_agg renV_tuple renV_func gotoS_goto gotoS_normal gotoS_exit gotoS_ret skip_seq sliceE bnd bndHi intOf optOpd keepT_nil keepT_cons keepC_t keepC_f lk_nil lk_cons lkC_t lkC_f has_nil has_cons hasC_t hasC_f rep_nil rep_cons repC_t repC_f put_eq putC_t putC_f mem_nil mem_cons memC_t memC_f idx_nil idx_cons idxC_t idxC_f reach_nil reachP_cons reachQ_t reachQ_f ptrB_dead renB_dead ins_eq
attribute [local simp] n72_1s n72_4s n72_6s n72_9s n72_10s n72_8s n72_11s n72_7s n72_5s n72_3s n72_14s n72_17s n72_18s n72_16s n72_19s n72_15s n72_13s n72_21s n72_24s n72_28s n72_31s n72_32s n72_30s n72_36s n72_40s n72_43s n72_44s n72_42s n72_46s n72_49s n72_50s n72_48s n72_51s n72_47s n72_45s n72_41s n72_39s n72_38s n72_52s n72_37s n72_35s n72_34s n72_53s n72_33s n72_29s n72_27s n72_26s n72_26g n72_25s n72_23s n72_55s n72_56s n72_54s n72_22s n72_20s n72_12s n72_2s n72_0s Try.f72
abbrev wv (n : Nat) : Value := .int .u32 (n : Int)
theorem wrap_u32 {n : Nat} (h : n < 2 ^ 32) : IntKind.u32.wrap (n : Int) = n := by simp [IntKind.wrap, IntKind.bits, IntKind.signed]; omega
theorem bin_and1w {P : Program} {t : TypeId} {c : Bool} {w : Nat} (h : w < 2 ^ 32) : binA P .and t c (.int .u32 (w : Int)) (.int .u32 1) = some (.int .u32 ((w % 2 : Nat) : Int)) := by
  have e : (BitVec.ofInt 32 (w : Int) &&& BitVec.ofInt 32 1).toNat = w % 2 := by
    rw [BitVec.ofInt_natCast]
    rw [show BitVec.ofInt 32 1 = BitVec.ofNat 32 1 from rfl, BitVec.toNat_and, BitVec.toNat_ofNat, BitVec.toNat_ofNat, Nat.mod_eq_of_lt h, Nat.mod_eq_of_lt (by decide : 1 < 2 ^ 32), Nat.and_one_is_mod]
  have e' : IntKind.u32.wrap ((BitVec.ofInt 32 (w : Int) &&& BitVec.ofInt 32 1).toNat : Int) = ((w % 2 : Nat) : Int) := by rw [e]; exact wrap_u32 (by omega)
  show some (Value.int .u32 (IntKind.u32.wrap ((BitVec.ofInt 32 (w : Int) &&& BitVec.ofInt 32 1).toNat : Int))) = _
  rw [e']
theorem bin_orw {P : Program} {t : TypeId} {c : Bool} {w v : Nat} (h : w < 2 ^ 32) (h' : v < 2 ^ 32) : binA P .or t c (.int .u32 (w : Int)) (.int .u32 (v : Int)) = some (.int .u32 ((w ||| v : Nat) : Int)) := by
  have hl : w ||| v < 2 ^ 32 := Nat.or_lt_two_pow h h'
  have e : (BitVec.ofInt 32 (w : Int) ||| BitVec.ofInt 32 (v : Int)).toNat = w ||| v := by
    rw [BitVec.ofInt_natCast, BitVec.ofInt_natCast, BitVec.toNat_or, BitVec.toNat_ofNat, BitVec.toNat_ofNat, Nat.mod_eq_of_lt h, Nat.mod_eq_of_lt h']
  have e' : IntKind.u32.wrap ((BitVec.ofInt 32 (w : Int) ||| BitVec.ofInt 32 (v : Int)).toNat : Int) = ((w ||| v : Nat) : Int) := by rw [e]; exact wrap_u32 hl
  show some (Value.int .u32 (IntKind.u32.wrap ((BitVec.ofInt 32 (w : Int) ||| BitVec.ofInt 32 (v : Int)).toNat : Int))) = _
  rw [e']
theorem fdiv_poww {w i : Nat} (hi : i < 32) : ((w : Int).fdiv (2 ^ min i IntKind.u32.bits)) = ((w / 2 ^ i : Nat) : Int) := by
  rw [show min i IntKind.u32.bits = i from Nat.min_eq_left (Nat.le_of_lt hi), Int.fdiv_eq_ediv_of_nonneg _ (by exact_mod_cast Nat.zero_le _)]
  simp
theorem shl_poww {J : Nat} (hJ : J < 32) : IntKind.u32.wrap (2 ^ min J IntKind.u32.bits) = ((2 ^ J : Nat) : Int) := by
  rw [show min J IntKind.u32.bits = J from Nat.min_eq_left (Nat.le_of_lt hJ), show ((2 : Int) ^ J) = ((2 ^ J : Nat) : Int) by simp]
  exact wrap_u32 (Nat.pow_lt_pow_right (by decide) hJ)
/-- whether a number stands among the k places from j on -/
def seenK (o : Nat → Int) (x : Int) : Nat → Nat → Bool
  | 0, _ => false
  | k + 1, j => decide (o j = x) || seenK o x k (j + 1)
theorem seen_iff {o : Nat → Int} {x : Int} : ∀ k j, seenK o x k j = true ↔ ∃ p, j ≤ p ∧ p < j + k ∧ o p = x := by
  intro k
  induction k with
  | zero => intro j; simp only [seenK, Bool.false_eq_true, false_iff]; rintro ⟨p, h1, h2, _⟩; omega
  | succ k ih =>
    intro j
    simp only [seenK, Bool.or_eq_true, decide_eq_true_eq, ih]
    constructor
    · rintro (h | ⟨p, h1, h2, h3⟩)
      · exact ⟨j, by omega, by omega, h⟩
      · exact ⟨p, by omega, by omega, h3⟩
    · rintro ⟨p, h1, h2, h3⟩
      by_cases hp : p = j
      · subst hp; exact .inl h3
      · exact .inr ⟨p, by omega, by omega, h3⟩
/-- the days met so far, as bits -/
def maskN (o : Nat → Int) : Nat → Nat
  | 0 => 0
  | i + 1 => maskN o i ||| 2 ^ (o i).toNat
theorem mask_bit {o : Nat → Int} {x : Nat} : ∀ {i}, (∀ j, j < i → 0 ≤ o j) → (maskN o i).testBit x = seenK o x i 0 := by
  intro i h
  apply Bool.eq_iff_iff.2
  rw [seen_iff]
  induction i with
  | zero => simp [maskN]
  | succ i ih =>
    have h0 := h i (by omega)
    have ih := ih fun j hj => h j (by omega)
    simp only [maskN, Nat.testBit_or, Bool.or_eq_true, Nat.testBit_two_pow, decide_eq_true_eq]
    rw [ih]
    constructor
    · rintro (⟨p, h1, h2, h3⟩ | h3)
      · exact ⟨p, by omega, by omega, h3⟩
      · exact ⟨i, by omega, by omega, by omega⟩
    · rintro ⟨p, h1, h2, h3⟩
      by_cases hp : p = i
      · subst hp; exact .inr (by omega)
      · exact .inl ⟨p, by omega, by omega, h3⟩
theorem mask_lt {o : Nat → Int} : ∀ {i}, (∀ j, j < i → 0 ≤ o j ∧ o j < 30) → maskN o i < 2 ^ 30 := by
  intro i
  induction i with
  | zero => intro _; simp [maskN]
  | succ i ih =>
    intro h
    have h0 := h i (by omega)
    exact Nat.or_lt_two_pow (ih fun j hj => h j (by omega)) (Nat.pow_lt_pow_right (by decide) (by omega))
/-- what is wrong with an order, from the i-th day on -/
def ordL (o : Nat → Int) (n : Nat) : Nat → Nat → Int
  | 0, _ => 0
  | k + 1, i => if (decide (0 ≤ o i) && decide (o i ≤ (n : Int) - 1)) = false then 6 else if seenK o (o i) i 0 = true then 7 else ordL o n k (i + 1)
def ordS (l : Nat → Int × Int) (n : Nat) (o : Nat → Int) (m : Nat) : Int := if chkS l n ≠ 0 then chkS l n else if m ≠ n then 4 else ordL o n m 0
section
variable (off n c off2 m c2 : Nat) (cs cs2 : List Value) (own own2 : Bool) (l : Nat → Int × Int) (o : Nat → Int)
theorem l72 (hc2 : InC cs2 off2 m o) (hn : n ≤ 30) (hm : m = n) : ∀ k i : Nat, i + k = m → (∀ j, j < i → 0 ≤ o j ∧ o j < n) →
    lpB Try.prog LL ⟨72, 43, 2, none⟩ n72_26 n72_27 ⟨[(0, sl 0 off n c), (6, wv (maskN o i)), (19, sl 1 off2 m c2), (20, iv m), (21, iv i)], [.cells cs 2 true own, .cells cs2 1 true own2], []⟩ =
      if ordL o n k i = 0 then some (.exit 0, ⟨[], [.cells cs 2 true own, .cells cs2 1 true own2], []⟩) else some (.ret, ⟨[(4, iv (ordL o n k i))], [.cells cs 2 true own, .cells cs2 1 true own2], []⟩) := by
  intro k
  induction k with
  | zero =>
    intro i hi hj
    obtain rfl : i = m := by omega
    generalize maskN o i = M
    rw [lpB_eq]
    simp (maxSteps := 1000000) (disch := first | omega | decide | assumption | simp [scal]) [lenA_sl lk_24, lenA_sl lk_78, o_indexAddrS es_24, loadA_eq ia_3, ordL]
  | succ k ih =>
    intro i hi hj
    have e1 : i < m := by omega
    have e1' : (i : Int) < m := by omega
    have e2 := hc2 i e1
    have hb := fun x => @mask_bit o x i fun j h => (hj j h).1
    have hl := @mask_lt o i fun j h => by have := hj j h; omega
    unfold ordL
    by_cases h1 : 0 ≤ o i ∧ o i ≤ (n : Int) - 1
    · have this := ih (i + 1) (by omega) (fun j h => by
        by_cases hj' : j = i
        · subst hj'; omega
        · exact hj j (by omega))
      obtain ⟨h1, h2⟩ := h1
      obtain ⟨x, hx⟩ : ∃ x : Nat, o i = x := ⟨(o i).toNat, by omega⟩
      have hb := hb x
      rw [show maskN o (i + 1) = maskN o i ||| 2 ^ (o i).toNat from rfl] at this
      rw [hx] at e2 h1 h2 this ⊢
      rw [Int.toNat_natCast] at this
      generalize maskN o i = M at *
      generalize seenK o (x : Int) i 0 = s at *
      have f1 := @fdiv_poww M x (by omega)
      have hq : M / 2 ^ x < 2 ^ 32 := by have := Nat.div_le_self M (2 ^ x); omega
      have f2 := fun c => @bin_and1w Try.prog 76 c _ hq
      have f3 := @shl_poww x (by omega)
      have p1 : 2 ^ x < 2 ^ 32 := Nat.pow_lt_pow_right (by decide) (by omega)
      have f4 := fun c => @bin_orw Try.prog 76 c M (2 ^ x) (by omega) p1
      rw [Nat.testBit_eq_decide_div_mod_eq] at hb
      generalize ((2 ^ x : Nat) : Int) = Q at *
      generalize M / 2 ^ x = q at *
      simp only [cast1] at this
      rw [lpB_eq]
      cases s
      · have hb' : ¬ (q : Int) % 2 = 1 := by have := of_decide_eq_false hb; omega
        simp (maxSteps := 1000000) (disch := first | omega | decide | assumption | simp [scal]) [lenA_sl lk_24, lenA_sl lk_78, o_indexAddrS es_24, loadA_eq ia_3, e1, e1', e2, h1, h2, k57, f1, f2, f3, f4, hb', this]
      · have hb' : (q : Int) % 2 = 1 := by have := of_decide_eq_true hb; omega
        have hb'' := eq_true hb'
        simp (maxSteps := 1000000) (disch := first | omega | decide | assumption | simp [scal]) [lenA_sl lk_24, lenA_sl lk_78, o_indexAddrS es_24, loadA_eq ia_3, e1, e1', e2, h1, h2, k57, f1, f2, f3, f4, hb'']
    · have h1' : (decide (0 ≤ o i) && decide (o i ≤ (n : Int) - 1)) = false := by
        simp only [Bool.and_eq_false_iff, decide_eq_false_iff_not]; omega
      generalize maskN o i = M at *
      rw [lpB_eq]
      simp (maxSteps := 1000000) (disch := first | omega | decide | assumption | simp [scal]) [lenA_sl lk_24, lenA_sl lk_78, o_indexAddrS es_24, loadA_eq ia_3, e1, e1', e2, h1', k57]
end
theorem so_ren {b off n c b2 off2 m c2 : Nat} {vs : List Value} (hne : b ≠ b2) (hv : vs.all scal = true) : optAll (renV (idx [b, b2]) dep) (sl b off n c :: sl b2 off2 m c2 :: vs) = some (sl 0 off n c :: sl 1 off2 m c2 :: vs) := by
  have e1 : renV (idx [b, b2]) dep (sl b off n c) = some (sl 0 off n c) := by simp [renV, dep, idx, nbeq]
  have e2 : renV (idx [b, b2]) dep (sl b2 off2 m c2) = some (sl 1 off2 m c2) := by simp [renV, dep, idx, nbeq, hne, hne.symm]
  have e3 : ∀ vs : List Value, vs.all scal = true → optAll (renV (idx [b, b2]) dep) vs = some vs := by
    intro vs hv
    induction vs with
    | nil => rfl
    | cons v vs ih =>
      simp only [List.all_cons, Bool.and_eq_true] at hv
      have e : renV (idx [b, b2]) dep v = some v := by cases v <;> simp [scal] at hv <;> rfl
      simp only [optAll, e, ih hv.2]
  simp only [optAll, e1, e2, e3 vs hv]
section
variable (b off n c b2 off2 m c2 : Nat) {cs cs2 : List Value} {own own2 : Bool} {l : Nat → Int × Int} {o : Nat → Int} {h : List Blk}
  (hb : h[b]? = some (.cells cs 2 true own)) (hb2 : h[b2]? = some (.cells cs2 1 true own2)) (hne : b ≠ b2) (hc : SpC cs off n l) (hc2 : InC cs2 off2 m o)
include hb hb2 hne hc hc2
theorem k72 (hn : n ≤ 60) : callH LL 72 [sl b off n c, sl b2 off2 m c2] h = some ⟨iv (ordS l n o m), h, [b, b2], []⟩ := by
  refine callH_2 rfl hb hb2 hne noIdB_flat noIdB_flat (so_ren hne rfl) (go (by decide) ?_) fun _ => rfl
  rw [run72 _ _ _ (by simp)]
  have a := fun bx => k45 0 off n c (h := .cells cs 2 true own :: bx) rfl hc hn
  unfold ordS
  by_cases h1 : chkS l n = 0
  · have n30 : n ≤ 30 := by
      unfold chkS at h1
      by_cases h0 : n = 0
      · omega
      · rw [if_neg h0] at h1
        by_cases h2 : 30 < n
        · rw [if_pos h2] at h1; omega
        · omega
    rw [h1] at a
    by_cases h2 : m = n
    · have this := l72 off n c off2 m c2 cs cs2 own own2 o hc2 n30 h2 m 0 (by omega) (fun j hj => by omega)
      have h2' : (m : Int) = n := by omega
      rw [show maskN o 0 = 0 from rfl, show wv 0 = .int .u32 0 from rfl] at this
      simp only [Int.natCast_zero] at this
      by_cases h3 : ordL o n m 0 = 0
      · rw [if_pos h3] at this
        subst h2
        simp (maxSteps := 1000000) (disch := first | omega | decide | assumption | simp [scal]) [lenA_sl lk_24, lenA_sl lk_78, o_indexAddrS es_24, loadA_eq ia_3, a, h1, h3, this]
      · rw [if_neg h3] at this
        subst h2
        simp (maxSteps := 1000000) (disch := first | omega | decide | assumption | simp [scal]) [lenA_sl lk_24, lenA_sl lk_78, o_indexAddrS es_24, loadA_eq ia_3, a, h1, h3, this]
    · have h2' : ¬ (m : Int) = n := by omega
      simp (maxSteps := 1000000) (disch := first | omega | decide | assumption | simp [scal]) [lenA_sl lk_24, lenA_sl lk_78, o_indexAddrS es_24, loadA_eq ia_3, a, h1, h2, h2']
  · simp (maxSteps := 1000000) (disch := first | omega | decide | assumption | simp [scal]) [lenA_sl lk_24, lenA_sl lk_78, o_indexAddrS es_24, loadA_eq ia_3, a, h1]
end
end Go.Proofs.Ytfccmddkblbeoaa.rk
namespace Go.Proofs.Ytfccmddkblbeoaa.rk
open Go.GE
set_option linter.unusedVariables false
set_option linter.unusedSimpArgs false
set_option linter.unusedSectionVars false
set_option maxRecDepth 100000
set_option maxHeartbeats 4000000
attribute [local simp] runOps_nil runOps_cons runOpsF_nil runOpsF_cons fstS_some fstF_some opStep_eq want_none oStep_true oStep_false fin_pure fin_read fin_alloc fin_write storeB wrN cellV addWr o_move o_assign o_pick o_alloc o_box o_load o_store o_nilCheck o_bin o_un o_extract o_callV o_callB o_callI callV_f callV_y callV_fc o_makeFunc partsA Instr.fill builtin_len builtin_max2 bin_add bin_sub bin_mul bin_quo bin_rem bin_lss bin_leq bin_gtr bin_geq bin_eql bin_neq un_neg un_not bin_shr bin_shl wrap_u64_id opd opds optAll putO nbeq nblt constOk isC ops sub cl cr co bodyOf thenS_normal thenS_ret thenS_exit thenS_goto afterN_normal afterN_ret afterN_exit afterN_goto condS_true condS_false blockS_normal blockS_ret blockS_exit blockS_goto headS normS normK_eq fixS_nil fixS_cons fix1 fixV emptyB keepO_nil keepO_cons roundC_normal roundC_exit roundC_ret roundC_goto sweep_eq sweepD rnm pickR pickW rootsB ptrT renT ptrFn renFn ptrB_flat ptrB_non renB_flat renB_non plainS_some drawS_some fpsOk disj unord range' dropTo enumT undef wrap_i64_id Value.cells mkCells ptrTo scal cellsAt rdN endS_ret resultsA Option.bind_some tupV finish reachN dep ptrL_eq ptrL renL_eq renL ptrV_bool ptrV_int ptrV_string ptrV_nilFunc ptrV_nilIface ptrV_nilPtr ptrV_ptr ptrV_nilSl ptrV_sl ptrV_iface ptrV_agg ptrV_tuple ptrV_func renV_bool renV_int renV_string renV_nilFunc renV_nilIface renV_nilPtr renV_ptr renV_nilSl renV_sl renV_iface renV_agg renV_tuple renV_func gotoS_goto gotoS_normal gotoS_exit gotoS_ret skip_seq sliceE bnd bndHi intOf optOpd keepT_nil keepT_cons keepC_t keepC_f lk_nil lk_cons lkC_t lkC_f has_nil has_cons hasC_t hasC_f rep_nil rep_cons repC_t repC_f put_eq putC_t putC_f mem_nil mem_cons memC_t memC_f idx_nil idx_cons idxC_t idxC_f reach_nil reachP_cons reachQ_t reachQ_f ptrB_dead renB_dead ins_eq
attribute [local simp] n76_1s n76_3s n76_6s n76_9s n76_10s n76_8s n76_11s n76_7s n76_5s n76_14s n76_17s n76_18s n76_16s n76_19s n76_15s n76_13s n76_22s n76_27s n76_29s n76_30s n76_28s n76_26s n76_35s n76_38s n76_39s n76_37s n76_40s n76_36s n76_34s n76_42s n76_47s n76_49s n76_50s n76_48s n76_46s n76_54s n76_57s n76_58s n76_56s n76_59s n76_55s n76_53s n76_52s n76_60s n76_51s n76_45s n76_44s n76_44g n76_43s n76_41s n76_33s n76_32s n76_61s n76_31s n76_25s n76_24s n76_24g n76_23s n76_21s n76_63s n76_64s n76_62s n76_20s n76_12s n76_4s n76_2s n76_0s Try.f76 n73_1s n73_4s n73_8s n73_11s n73_12s n73_10s n73_16s n73_18s n73_23s n73_25s n73_26s n73_24s n73_22s n73_30s n73_33s n73_34s n73_32s n73_35s n73_31s n73_29s n73_28s n73_36s n73_27s n73_21s n73_20s n73_20g n73_19s n73_17s n73_15s n73_14s n73_37s n73_13s n73_9s n73_7s n73_6s n73_6g n73_5s n73_3s n73_39s n73_40s n73_38s n73_2s n73_0s Try.f73 n46_1s n46_3s n46_6s n46_9s n46_10s n46_8s n46_11s n46_7s n46_5s n46_14s n46_19s n46_21s n46_22s n46_20s n46_18s n46_26s n46_31s n46_33s n46_34s n46_32s n46_30s n46_38s n46_41s n46_42s n46_40s n46_43s n46_39s n46_37s n46_36s n46_44s n46_35s n46_29s n46_28s n46_28g n46_27s n46_25s n46_24s n46_45s n46_23s n46_17s n46_16s n46_16g n46_15s n46_13s n46_47s n46_48s n46_46s n46_12s n46_4s n46_2s n46_0s Try.f46
section
variable (off n c off2 m c2 : Nat) (cs cs2 : List Value) (own own2 : Bool) (l : Nat → Int × Int) (o : Nat → Int)
theorem l76i (hc2 : InC cs2 off2 m o) (hm : m ≤ 60) (i : Nat) (hi : i < m) : ∀ k j : Nat, j + k = i →
    lpB Try.prog LL ⟨76, 47, 2, none⟩ n76_44 n76_45 ⟨[(7, iv j), (0, sl 0 off n c), (1, sl 1 off2 m c2), (6, iv i)], [.cells cs 2 true own, .cells cs2 1 true own2], []⟩ =
      if seenK o (o i) k j = false then some (.exit 2, ⟨[(0, sl 0 off n c), (1, sl 1 off2 m c2), (6, iv i)], [.cells cs 2 true own, .cells cs2 1 true own2], []⟩) else some (.ret, ⟨[(4, iv 7)], [.cells cs 2 true own, .cells cs2 1 true own2], []⟩) := by
  intro k
  induction k with
  | zero =>
    intro j hj
    obtain rfl : j = i := by omega
    rw [lpB_eq]
    simp (maxSteps := 1000000) (disch := first | omega | decide | assumption | simp [scal]) [lenA_sl lk_24, lenA_sl lk_22, o_indexAddrS es_24, loadA_eq ia_3, seenK]
  | succ k ih =>
    intro j hj
    have e1 : j < i := by omega
    have e1' : (j : Int) < i := by omega
    have e2 : j < m := by omega
    have e3 := hc2 j e2
    have e4 := hc2 i hi
    have this := ih (j + 1) (by omega)
    unfold seenK
    simp only [cast1] at this
    generalize o j = x at *
    generalize o i = y at *
    rw [lpB_eq]
    by_cases h1 : x = y
    · subst h1
      simp (maxSteps := 1000000) (disch := first | omega | decide | assumption | simp [scal]) [lenA_sl lk_24, lenA_sl lk_22, o_indexAddrS es_24, loadA_eq ia_3, e1, e1', e2, e3, e4, hi]
    · simp (maxSteps := 1000000) (disch := first | omega | decide | assumption | simp [scal]) [lenA_sl lk_24, lenA_sl lk_22, o_indexAddrS es_24, loadA_eq ia_3, e1, e1', e2, e3, e4, hi, h1, this]
theorem l76 (hc2 : InC cs2 off2 m o) (hm : m ≤ 60) (hn : n ≤ 60) : ∀ k i : Nat, i + k = m →
    lpB Try.prog LL ⟨76, 47, 2, none⟩ n76_24 n76_25 ⟨[(0, sl 0 off n c), (1, sl 1 off2 m c2), (6, iv i)], [.cells cs 2 true own, .cells cs2 1 true own2], []⟩ =
      if ordL o n k i = 0 then some (.exit 0, ⟨[], [.cells cs 2 true own, .cells cs2 1 true own2], []⟩) else some (.ret, ⟨[(4, iv (ordL o n k i))], [.cells cs 2 true own, .cells cs2 1 true own2], []⟩) := by
  intro k
  induction k with
  | zero =>
    intro i hi
    obtain rfl : i = m := by omega
    rw [lpB_eq]
    simp (maxSteps := 1000000) (disch := first | omega | decide | assumption | simp [scal]) [lenA_sl lk_24, lenA_sl lk_22, o_indexAddrS es_24, loadA_eq ia_3, ordL]
  | succ k ih =>
    intro i hi
    have e1 : i < m := by omega
    have e1' : (i : Int) < m := by omega
    have e2 := hc2 i e1
    have this := ih (i + 1) (by omega)
    have inn := l76i off n c off2 m c2 cs cs2 own own2 o hc2 hm i e1 i 0 (by omega)
    simp only [Int.natCast_zero] at inn
    unfold ordL
    simp only [cast1] at this
    generalize o i = x at *
    generalize seenK o x i 0 = s at *
    rw [lpB_eq]
    cases h1 : (decide (0 ≤ x) && decide (x ≤ (n : Int) - 1))
    · simp (maxSteps := 1000000) (disch := first | omega | decide | assumption | simp [scal]) [lenA_sl lk_24, lenA_sl lk_22, o_indexAddrS es_24, loadA_eq ia_3, e1, e1', e2, k58, h1]
    · cases s
      · simp only [if_pos rfl] at inn
        simp (maxSteps := 1000000) (disch := first | omega | decide | assumption | simp [scal]) [lenA_sl lk_24, lenA_sl lk_22, o_indexAddrS es_24, loadA_eq ia_3, e1, e1', e2, k58, h1, inn, this]
      · rw [if_neg (by decide)] at inn
        simp (maxSteps := 1000000) (disch := first | omega | decide | assumption | simp [scal]) [lenA_sl lk_24, lenA_sl lk_22, o_indexAddrS es_24, loadA_eq ia_3, e1, e1', e2, k58, h1, inn]
end
section
variable (b off n c b2 off2 m c2 : Nat) {cs cs2 : List Value} {own own2 : Bool} {l : Nat → Int × Int} {o : Nat → Int} {h : List Blk}
  (hb : h[b]? = some (.cells cs 2 true own)) (hb2 : h[b2]? = some (.cells cs2 1 true own2)) (hne : b ≠ b2) (hc : SpC cs off n l) (hc2 : InC cs2 off2 m o)
include hb hb2 hne hc hc2
theorem k76 (hn : n ≤ 60) : callH LL 76 [sl b off n c, sl b2 off2 m c2] h = some ⟨iv (ordS l n o m), h, [b, b2], []⟩ := by
  refine callH_2 rfl hb hb2 hne noIdB_flat noIdB_flat (so_ren hne rfl) (go (by decide) ?_) fun _ => rfl
  rw [run76 _ _ _ (by simp)]
  have a := fun bx => k50 0 off n c (h := .cells cs 2 true own :: bx) rfl hc hn
  unfold ordS
  by_cases h1 : chkS l n = 0
  · rw [h1] at a
    by_cases h2 : m = n
    · have this := l76 off n c off2 m c2 cs cs2 own own2 o hc2 (by omega) hn m 0 (by omega)
      simp only [Int.natCast_zero] at this
      by_cases h3 : ordL o n m 0 = 0
      · rw [if_pos h3] at this
        subst h2
        simp (maxSteps := 1000000) (disch := first | omega | decide | assumption | simp [scal]) [lenA_sl lk_24, lenA_sl lk_22, o_indexAddrS es_24, loadA_eq ia_3, a, h1, h3, this]
      · rw [if_neg h3] at this
        subst h2
        simp (maxSteps := 1000000) (disch := first | omega | decide | assumption | simp [scal]) [lenA_sl lk_24, lenA_sl lk_22, o_indexAddrS es_24, loadA_eq ia_3, a, h1, h3, this]
    · have h2' : ¬ (m : Int) = n := by omega
      simp (maxSteps := 1000000) (disch := first | omega | decide | assumption | simp [scal]) [lenA_sl lk_24, lenA_sl lk_22, o_indexAddrS es_24, loadA_eq ia_3, a, h1, h2, h2']
  · simp (maxSteps := 1000000) (disch := first | omega | decide | assumption | simp [scal]) [lenA_sl lk_24, lenA_sl lk_22, o_indexAddrS es_24, loadA_eq ia_3, a, h1]
end
/-- the place q of a fault at p -/
def fltQ (l : Nat → Int × Int) (o : Nat → Int) (p : Nat) : Nat → Nat → Option Nat
  | 0, _ => none
  | k + 1, q => if quiet l (o q).toNat (o p).toNat = true then some q else fltQ l o p k (q + 1)
def fltP (l : Nat → Int × Int) (o : Nat → Int) (m : Nat) : Nat → Nat → Option (Nat × Nat)
  | 0, _ => none
  | k + 1, p => match fltQ l o p (m - (p + 1)) (p + 1) with
    | some q => some (p, q)
    | none => fltP l o m k (p + 1)
section
variable (off n c off2 m c2 : Nat) (cs cs2 : List Value) (own own2 : Bool) (l : Nat → Int × Int) (o : Nat → Int)
  (hc : SpC cs off n l) (hc2 : InC cs2 off2 m o) (hm : m ≤ 60) (ho : ∀ j, j < m → 0 ≤ o j ∧ o j < n)
include hc hc2 hm ho
theorem l73i (p : Nat) (hp : p < m) : ∀ k q : Nat, q + k = m →
    lpB Try.prog LL ⟨73, 35, 2, none⟩ n73_20 n73_21 ⟨[(7, iv p), (8, iv q), (0, sl 0 off n c), (1, sl 1 off2 m c2), (10, iv m), (11, iv p)], [.cells cs 2 true own, .cells cs2 1 true own2], []⟩ =
      match fltQ l o p k q with
      | none => some (.exit 2, ⟨[(0, sl 0 off n c), (1, sl 1 off2 m c2), (10, iv m), (11, iv p)], [.cells cs 2 true own, .cells cs2 1 true own2], []⟩)
      | some q' => some (.ret, ⟨[(4, iv p), (5, iv q'), (6, .bool true)], [.cells cs 2 true own, .cells cs2 1 true own2], []⟩) := by
  intro k
  induction k with
  | zero =>
    intro q hq
    obtain rfl : q = m := by omega
    rw [lpB_eq]
    simp (maxSteps := 1000000) (disch := first | omega | decide | assumption | simp [scal]) [lenA_sl lk_24, o_indexAddrS es_24, loadA_eq ia_3, fltQ]
  | succ k ih =>
    intro q hq
    have e1 : q < m := by omega
    have e1' : (q : Int) < m := by omega
    have e3 := hc2 q e1
    have e4 := hc2 p hp
    have this := ih (q + 1) (by omega)
    obtain ⟨x, hx⟩ : ∃ x : Nat, o q = x := ⟨(o q).toNat, by have := ho q e1; omega⟩
    obtain ⟨y, hy⟩ : ∃ y : Nat, o p = y := ⟨(o p).toNat, by have := ho p hp; omega⟩
    have a := fun bx => k77 0 off n c (h := .cells cs 2 true own :: bx) rfl hc x y (by have := ho q e1; omega) (by have := ho p hp; omega)
    unfold fltQ
    simp only [cast1] at this
    rw [hx] at e3
    rw [hy] at e4
    rw [hx, hy, Int.toNat_natCast, Int.toNat_natCast]
    rw [lpB_eq]
    cases h1 : quiet l x y <;> rw [h1] at a
    · simp (maxSteps := 1000000) (disch := first | omega | decide | assumption | simp [scal]) [lenA_sl lk_24, o_indexAddrS es_24, loadA_eq ia_3, e1, e1', e3, e4, hp, a, this]
    · simp (maxSteps := 1000000) (disch := first | omega | decide | assumption | simp [scal]) [lenA_sl lk_24, o_indexAddrS es_24, loadA_eq ia_3, e1, e1', e3, e4, hp, a]
theorem l73 : ∀ k p : Nat, p + k = m →
    lpB Try.prog LL ⟨73, 35, 2, none⟩ n73_6 n73_7 ⟨[(0, sl 0 off n c), (1, sl 1 off2 m c2), (10, iv m), (11, iv p)], [.cells cs 2 true own, .cells cs2 1 true own2], []⟩ =
      match fltP l o m k p with
      | none => some (.exit 0, ⟨[], [.cells cs 2 true own, .cells cs2 1 true own2], []⟩)
      | some r => some (.ret, ⟨[(4, iv r.1), (5, iv r.2), (6, .bool true)], [.cells cs 2 true own, .cells cs2 1 true own2], []⟩) := by
  intro k
  induction k with
  | zero =>
    intro p hp
    obtain rfl : p = m := by omega
    rw [lpB_eq]
    simp (maxSteps := 1000000) (disch := first | omega | decide | assumption | simp [scal]) [lenA_sl lk_24, o_indexAddrS es_24, loadA_eq ia_3, fltP]
  | succ k ih =>
    intro p hp
    have e1 : p < m := by omega
    have e1' : (p : Int) < m := by omega
    have this := ih (p + 1) (by omega)
    have inn := l73i off n c off2 m c2 cs cs2 own own2 l o hc hc2 hm ho p e1 (m - (p + 1)) (p + 1) (by omega)
    unfold fltP
    simp only [cast1] at this inn
    rw [lpB_eq]
    cases h1 : fltQ l o p (m - (p + 1)) (p + 1) with
    | none =>
      rw [h1] at inn
      simp (maxSteps := 1000000) (disch := first | omega | decide | assumption | simp [scal]) [lenA_sl lk_24, o_indexAddrS es_24, loadA_eq ia_3, e1, e1', inn, this]
    | some q =>
      rw [h1] at inn
      simp (maxSteps := 1000000) (disch := first | omega | decide | assumption | simp [scal]) [lenA_sl lk_24, o_indexAddrS es_24, loadA_eq ia_3, e1, e1', inn]
theorem l46i (p : Nat) (hp : p < m) : ∀ k q : Nat, q + k = m →
    lpB Try.prog LL ⟨46, 42, 2, none⟩ n46_28 n46_29 ⟨[(9, iv q), (0, sl 0 off n c), (1, sl 1 off2 m c2), (8, iv p)], [.cells cs 2 true own, .cells cs2 1 true own2], []⟩ =
      match fltQ l o p k q with
      | none => some (.exit 2, ⟨[(0, sl 0 off n c), (1, sl 1 off2 m c2), (8, iv p)], [.cells cs 2 true own, .cells cs2 1 true own2], []⟩)
      | some q' => some (.ret, ⟨[(4, iv p), (5, iv q'), (6, iv 0)], [.cells cs 2 true own, .cells cs2 1 true own2], []⟩) := by
  intro k
  induction k with
  | zero =>
    intro q hq
    obtain rfl : q = m := by omega
    rw [lpB_eq]
    simp (maxSteps := 1000000) (disch := first | omega | decide | assumption | simp [scal]) [lenA_sl lk_24, o_indexAddrS es_24, loadA_eq ia_3, fltQ]
  | succ k ih =>
    intro q hq
    have e1 : q < m := by omega
    have e1' : (q : Int) < m := by omega
    have e3 := hc2 q e1
    have e4 := hc2 p hp
    have this := ih (q + 1) (by omega)
    obtain ⟨x, hx⟩ : ∃ x : Nat, o q = x := ⟨(o q).toNat, by have := ho q e1; omega⟩
    obtain ⟨y, hy⟩ : ∃ y : Nat, o p = y := ⟨(o p).toNat, by have := ho p hp; omega⟩
    have a := fun bx => k55 0 off n c (h := .cells cs 2 true own :: bx) rfl hc x y (by have := ho q e1; omega) (by have := ho p hp; omega)
    unfold fltQ
    simp only [cast1] at this
    rw [hx] at e3
    rw [hy] at e4
    rw [hx, hy, Int.toNat_natCast, Int.toNat_natCast]
    rw [lpB_eq]
    cases h1 : quiet l x y <;> rw [h1] at a
    · simp (maxSteps := 1000000) (disch := first | omega | decide | assumption | simp [scal]) [lenA_sl lk_24, o_indexAddrS es_24, loadA_eq ia_3, e1, e1', e3, e4, hp, a, this]
    · simp (maxSteps := 1000000) (disch := first | omega | decide | assumption | simp [scal]) [lenA_sl lk_24, o_indexAddrS es_24, loadA_eq ia_3, e1, e1', e3, e4, hp, a]
theorem l46 : ∀ k p : Nat, p + k = m →
    lpB Try.prog LL ⟨46, 42, 2, none⟩ n46_16 n46_17 ⟨[(0, sl 0 off n c), (1, sl 1 off2 m c2), (8, iv p)], [.cells cs 2 true own, .cells cs2 1 true own2], []⟩ =
      match fltP l o m k p with
      | none => some (.exit 0, ⟨[], [.cells cs 2 true own, .cells cs2 1 true own2], []⟩)
      | some r => some (.ret, ⟨[(4, iv r.1), (5, iv r.2), (6, iv 0)], [.cells cs 2 true own, .cells cs2 1 true own2], []⟩) := by
  intro k
  induction k with
  | zero =>
    intro p hp
    obtain rfl : p = m := by omega
    rw [lpB_eq]
    simp (maxSteps := 1000000) (disch := first | omega | decide | assumption | simp [scal]) [lenA_sl lk_24, o_indexAddrS es_24, loadA_eq ia_3, fltP]
  | succ k ih =>
    intro p hp
    have e1 : p < m := by omega
    have e1' : (p : Int) < m := by omega
    have this := ih (p + 1) (by omega)
    have inn := l46i off n c off2 m c2 cs cs2 own own2 l o hc hc2 hm ho p e1 (m - (p + 1)) (p + 1) (by omega)
    unfold fltP
    simp only [cast1] at this inn
    rw [lpB_eq]
    cases h1 : fltQ l o p (m - (p + 1)) (p + 1) with
    | none =>
      rw [h1] at inn
      simp (maxSteps := 1000000) (disch := first | omega | decide | assumption | simp [scal]) [lenA_sl lk_24, o_indexAddrS es_24, loadA_eq ia_3, e1, e1', inn, this]
    | some q =>
      rw [h1] at inn
      simp (maxSteps := 1000000) (disch := first | omega | decide | assumption | simp [scal]) [lenA_sl lk_24, o_indexAddrS es_24, loadA_eq ia_3, e1, e1', inn]
end
theorem ord_ok {l : Nat → Int × Int} {n : Nat} {o : Nat → Int} {m : Nat} (h : ordS l n o m = 0) : m = n ∧ n ≤ 30 ∧ ∀ j, j < m → 0 ≤ o j ∧ o j < n := by
  unfold ordS at h
  by_cases h1 : chkS l n = 0
  · rw [if_neg (by simp [h1])] at h
    by_cases h2 : m = n
    · rw [if_neg (by simp [h2])] at h
      refine ⟨h2, ?_, ?_⟩
      · unfold chkS at h1
        by_cases h0 : n = 0
        · omega
        · rw [if_neg h0] at h1
          by_cases h2 : 30 < n
          · rw [if_pos h2] at h1; omega
          · omega
      · have key : ∀ k i, ordL o n k i = 0 → ∀ j, i ≤ j → j < i + k → 0 ≤ o j ∧ o j < n := by
          intro k
          induction k with
          | zero => intro i _ j h3 h4; omega
          | succ k ih =>
            intro i hk j h3 h4
            unfold ordL at hk
            cases h5 : (decide (0 ≤ o i) && decide (o i ≤ (n : Int) - 1))
            · rw [if_pos h5] at hk; omega
            · rw [if_neg (by simp [h5])] at hk
              by_cases h6 : seenK o (o i) i 0 = true
              · rw [if_pos h6] at hk; omega
              · rw [if_neg h6] at hk
                simp only [Bool.and_eq_true, decide_eq_true_eq] at h5
                by_cases hj : j = i
                · subst hj; omega
                · exact ih (i + 1) hk j (by omega) (by omega)
        intro j hj
        exact key m 0 h j (by omega) (by omega)
    · rw [if_pos h2] at h; omega
  · rw [if_pos h1] at h; omega
/-- the first fault, and the error -/
def fltV (l : Nat → Int × Int) (n : Nat) (o : Nat → Int) (m : Nat) : Value :=
  if ordS l n o m ≠ 0 then .tuple #[iv 0, iv 0, iv (ordS l n o m)] else match fltP l o m m 0 with
    | none => .tuple #[iv 0, iv 0, iv 6]
    | some r => .tuple #[iv r.1, iv r.2, iv 0]
theorem fltV_ren {l : Nat → Int × Int} {n : Nat} {o : Nat → Int} {m : Nat} (g : Nat → Option Nat) : renV g dep (fltV l n o m) = some (fltV l n o m) := by
  unfold fltV
  split
  · rfl
  · split <;> rfl
def posS (l : Nat → Int × Int) (n : Nat) (o : Nat → Int) (m : Nat) : Int := if ordS l n o m ≠ 0 then ordS l n o m else if (fltP l o m m 0).isSome then 13 else 0
section
variable (b off n c b2 off2 m c2 : Nat) {cs cs2 : List Value} {own own2 : Bool} {l : Nat → Int × Int} {o : Nat → Int} {h : List Blk}
  (hb : h[b]? = some (.cells cs 2 true own)) (hb2 : h[b2]? = some (.cells cs2 1 true own2)) (hne : b ≠ b2) (hc : SpC cs off n l) (hc2 : InC cs2 off2 m o)
include hb hb2 hne hc hc2
theorem k73 (hm : m ≤ 60) (ho : ∀ j, j < m → 0 ≤ o j ∧ o j < n) : callH LL 73 [sl b off n c, sl b2 off2 m c2] h = some ⟨match fltP l o m m 0 with | none => .tuple #[iv 0, iv 0, .bool false] | some r => .tuple #[iv r.1, iv r.2, .bool true], h, [b, b2], []⟩ := by
  refine callH_2 rfl hb hb2 hne noIdB_flat noIdB_flat (so_ren hne rfl) (go (by decide) ?_) fun _ => by split <;> rfl
  rw [run73 _ _ _ (by simp)]
  have this := l73 off n c off2 m c2 cs cs2 own own2 l o hc hc2 hm ho m 0 (by omega)
  simp only [Int.natCast_zero] at this
  cases h1 : fltP l o m m 0 with
  | none =>
    rw [h1] at this
    simp (maxSteps := 1000000) (disch := first | omega | decide | assumption | simp [scal]) [lenA_sl lk_24, o_indexAddrS es_24, loadA_eq ia_3, this]
  | some r =>
    rw [h1] at this
    simp (maxSteps := 1000000) (disch := first | omega | decide | assumption | simp [scal]) [lenA_sl lk_24, o_indexAddrS es_24, loadA_eq ia_3, this]
theorem k46 (hn : n ≤ 60) : callH LL 46 [sl b off n c, sl b2 off2 m c2] h = some ⟨fltV l n o m, h, [b, b2], []⟩ := by
  refine callH_2 rfl hb hb2 hne noIdB_flat noIdB_flat (so_ren hne rfl) (go (by decide) ?_) fltV_ren
  rw [run46 _ _ _ (by simp)]
  have a := fun bx => k76 0 off n c 1 off2 m c2 (h := .cells cs 2 true own :: .cells cs2 1 true own2 :: bx) rfl rfl (by decide) hc hc2 hn
  unfold fltV
  by_cases h1 : ordS l n o m = 0
  · obtain ⟨h2, h3, h4⟩ := ord_ok h1
    have this := l46 off n c off2 m c2 cs cs2 own own2 l o hc hc2 (by omega) h4 m 0 (by omega)
    simp only [Int.natCast_zero] at this
    rw [h1] at a
    cases h5 : fltP l o m m 0 with
    | none =>
      rw [h5] at this
      simp (maxSteps := 1000000) (disch := first | omega | decide | assumption | simp [scal]) [lenA_sl lk_24, o_indexAddrS es_24, loadA_eq ia_3, a, h1, this]
    | some r =>
      rw [h5] at this
      simp (maxSteps := 1000000) (disch := first | omega | decide | assumption | simp [scal]) [lenA_sl lk_24, o_indexAddrS es_24, loadA_eq ia_3, a, h1, this]
  · simp (maxSteps := 1000000) (disch := first | omega | decide | assumption | simp [scal]) [lenA_sl lk_24, o_indexAddrS es_24, loadA_eq ia_3, a, h1]
end
end Go.Proofs.Ytfccmddkblbeoaa.rk
namespace Go.Proofs.Ytfccmddkblbeoaa.rk
open Go.GE
set_option linter.unusedVariables false
set_option linter.unusedSimpArgs false
set_option linter.unusedSectionVars false
set_option maxRecDepth 100000
set_option maxHeartbeats 4000000
attribute [local simp] runOps_nil runOps_cons runOpsF_nil runOpsF_cons fstS_some fstF_some opStep_eq want_none oStep_true oStep_false fin_pure fin_read fin_alloc fin_write storeB wrN cellV addWr o_move o_assign o_pick o_alloc o_box o_load o_store o_nilCheck o_bin o_un o_extract o_callV o_callB o_callI callV_f callV_y callV_fc o_makeFunc partsA Instr.fill builtin_len builtin_max2 bin_add bin_sub bin_mul bin_quo bin_rem bin_lss bin_leq bin_gtr bin_geq bin_eql bin_neq un_neg un_not bin_shr bin_shl wrap_u64_id opd opds optAll putO nbeq nblt constOk isC ops sub cl cr co bodyOf thenS_normal thenS_ret thenS_exit thenS_goto afterN_normal afterN_ret afterN_exit afterN_goto condS_true condS_false blockS_normal blockS_ret blockS_exit blockS_goto headS normS normK_eq fixS_nil fixS_cons fix1 fixV emptyB keepO_nil keepO_cons roundC_normal roundC_exit roundC_ret roundC_goto sweep_eq sweepD rnm pickR pickW rootsB ptrT renT ptrFn renFn ptrB_flat ptrB_non renB_flat renB_non plainS_some drawS_some fpsOk disj unord range' dropTo enumT undef wrap_i64_id Value.cells mkCells ptrTo scal cellsAt rdN endS_ret resultsA Option.bind_some tupV finish reachN dep ptrL_eq ptrL renL_eq renL ptrV_bool ptrV_int ptrV_string ptrV_nilFunc ptrV_nilIface ptrV_nilPtr ptrV_ptr ptrV_nilSl ptrV_sl ptrV_iface ptrV_agg ptrV_tuple ptrV_func renV_bool renV_int renV_string renV_nilFunc renV_nilIface renV_nilPtr renV_ptr renV_nilSl renV_sl renV_iface renV_agg renV_tuple renV_func gotoS_goto gotoS_normal gotoS_exit gotoS_ret skip_seq sliceE bnd bndHi intOf optOpd keepT_nil keepT_cons keepC_t keepC_f lk_nil lk_cons lkC_t lkC_f has_nil has_cons hasC_t hasC_f rep_nil rep_cons repC_t repC_f put_eq putC_t putC_f mem_nil mem_cons memC_t memC_f idx_nil idx_cons idxC_t idxC_f reach_nil reachP_cons reachQ_t reachQ_f ptrB_dead renB_dead ins_eq
attribute [local simp] n37_1s n37_4s n37_6s n37_9s n37_10s n37_8s n37_11s n37_7s n37_5s n37_3s n37_14s n37_16s n37_19s n37_20s n37_18s n37_21s n37_17s n37_15s n37_13s n37_23s n37_24s n37_22s n37_12s n37_2s n37_0s Try.f37 n49_1s n49_3s n49_6s n49_9s n49_10s n49_8s n49_11s n49_7s n49_5s n49_14s n49_17s n49_18s n49_16s n49_19s n49_15s n49_13s n49_21s n49_22s n49_20s n49_12s n49_4s n49_2s n49_0s Try.f49
section
variable (b off n c b2 off2 m c2 : Nat) {cs cs2 : List Value} {own own2 : Bool} {l : Nat → Int × Int} {o : Nat → Int} {h : List Blk}
  (hb : h[b]? = some (.cells cs 2 true own)) (hb2 : h[b2]? = some (.cells cs2 1 true own2)) (hne : b ≠ b2) (hc : SpC cs off n l) (hc2 : InC cs2 off2 m o)
include hb hb2 hne hc hc2
theorem k37 (hn : n ≤ 60) : callH LL 37 [sl b off n c, sl b2 off2 m c2] h = some ⟨iv (posS l n o m), h, [b, b2], []⟩ := by
  refine callH_2 rfl hb hb2 hne noIdB_flat noIdB_flat (so_ren hne rfl) (go (by decide) ?_) fun _ => rfl
  rw [run37 _ _ _ (by simp)]
  have a := fun bx => k72 0 off n c 1 off2 m c2 (h := .cells cs 2 true own :: .cells cs2 1 true own2 :: bx) rfl rfl (by decide) hc hc2 hn
  unfold posS
  by_cases h1 : ordS l n o m = 0
  · obtain ⟨h2, h3, h4⟩ := ord_ok h1
    have a1 := fun bx => k73 0 off n c 1 off2 m c2 (h := .cells cs 2 true own :: .cells cs2 1 true own2 :: bx) rfl rfl (by decide) hc hc2 (by omega) h4
    rw [h1] at a
    cases h5 : fltP l o m m 0 with
    | none =>
      rw [h5] at a1
      simp (maxSteps := 1000000) (disch := first | omega | decide | assumption | simp [scal]) [a, h1, a1]
    | some r =>
      rw [h5] at a1
      simp (maxSteps := 1000000) (disch := first | omega | decide | assumption | simp [scal]) [a, h1, a1]
  · simp (maxSteps := 1000000) (disch := first | omega | decide | assumption | simp [scal]) [a, h1]
theorem k49 (hn : n ≤ 60) : callH LL 49 [sl b off n c, sl b2 off2 m c2] h = some ⟨iv (posS l n o m), h, [b, b2], []⟩ := by
  refine callH_2 rfl hb hb2 hne noIdB_flat noIdB_flat (so_ren hne rfl) (go (by decide) ?_) fun _ => rfl
  rw [run49 _ _ _ (by simp)]
  have a := fun bx => k46 0 off n c 1 off2 m c2 (h := .cells cs 2 true own :: .cells cs2 1 true own2 :: bx) rfl rfl (by decide) hc hc2 hn
  have a2 := fun bx => k76 0 off n c 1 off2 m c2 (h := .cells cs 2 true own :: .cells cs2 1 true own2 :: bx) rfl rfl (by decide) hc hc2 hn
  unfold posS
  unfold fltV at a
  by_cases h1 : ordS l n o m = 0
  · rw [if_neg (by simp [h1])] at a
    rw [h1] at a2
    cases h5 : fltP l o m m 0 with
    | none =>
      rw [h5] at a
      simp (maxSteps := 1000000) (disch := first | omega | decide | assumption | simp [scal]) [want_some q49_14g2, a, h1, a2]
    | some r =>
      rw [h5] at a
      simp (maxSteps := 1000000) (disch := first | omega | decide | assumption | simp [scal]) [want_some q49_14g2, a, h1, a2]
  · rw [if_pos h1] at a
    generalize ordS l n o m = z at *
    by_cases h6 : z = 6
    · subst h6
      simp (maxSteps := 1000000) (disch := first | omega | decide | assumption | simp [scal]) [want_some q49_14g2, a, h1, a2]
    · simp (maxSteps := 1000000) (disch := first | omega | decide | assumption | simp [scal]) [want_some q49_14g2, a, h1, a2, h6]
end
end Go.Proofs.Ytfccmddkblbeoaa.rk
namespace Go.Proofs.Ytfccmddkblbeoaa.rk
open Go.GE
set_option linter.unusedVariables false
set_option linter.unusedSimpArgs false
set_option linter.unusedSectionVars false
set_option maxRecDepth 100000
set_option maxHeartbeats 4000000
section
open Go.ChangeShapes Go.WideShapes Go.RowKit
variable {H : Type} {enc : TypeId × Value → H} {W : World} {base b0 : Nat} {v : Value} {d : DataW H} {p : List MemPlace}
def spOf (zs : List (List Int)) (i : Nat) : Int × Int := ((zs.getD i []).getD 0 0, (zs.getD i []).getD 1 0)
def inOf (zs : List (List Int)) (i : Nat) : Int := (zs.getD i []).getD 0 0
abbrev spG (p : Int × Int) : List Value := [iv p.1, iv p.2]
theorem sp_flat {zs : List (List Int)} (h : ∀ z ∈ zs, wfs [.i64, .i64] z) : SpC (zs.flatMap (ints [.i64, .i64])) 0 zs.length (spOf zs) := by
  have e : zs.flatMap (ints [.i64, .i64]) = zs.flatMap fun z => spG (z.getD 0 0, z.getD 1 0) := by
    induction zs with
    | nil => rfl
    | cons z zs ih =>
      have h1 := (h z (by simp)).1
      match z, h1 with
      | [a, b], _ => rw [List.flatMap_cons, List.flatMap_cons, ih fun z hz => h z (by simp [hz])]; rfl
  rw [e]
  intro i hi
  have hz : zs[i]? = some (zs.getD i []) := by simp [hi]
  refine ⟨?_, ?_⟩
  · have := flat_get (g := fun z : List Int => spG (z.getD 0 0, z.getD 1 0)) (k := 2) (fun _ => rfl) hz (j := 0) (by omega); simpa [spG, spOf] using this
  · have := flat_get (g := fun z : List Int => spG (z.getD 0 0, z.getD 1 0)) (k := 2) (fun _ => rfl) hz (j := 1) (by omega); simpa [spG, spOf] using this
theorem in_flat {zs : List (List Int)} (h : ∀ z ∈ zs, wfs [.i64] z) : InC (zs.flatMap (ints [.i64])) 0 zs.length (inOf zs) := by
  have e : zs.flatMap (ints [.i64]) = zs.flatMap fun z => [iv (z.getD 0 0)] := by
    induction zs with
    | nil => rfl
    | cons z zs ih =>
      have h1 := (h z (by simp)).1
      match z, h1 with
      | [a], _ => rw [List.flatMap_cons, List.flatMap_cons, ih fun z hz => h z (by simp [hz])]; rfl
  rw [e]
  intro i hi
  have hz : zs[i]? = some (zs.getD i []) := by simp [hi]
  have := flat_get (g := fun z : List Int => [iv (z.getD 0 0)]) (k := 1) (fun _ => rfl) hz (j := 0) (by omega); simpa [inOf] using this
/-- a month as it is handed over -/
theorem open_spans (hv : Value.okWide Try.prog W .any b0 22 v) (hd : DataW.Trod enc Try.prog W base (fun _ => true) true 22 v d p) :
    ∃ (zs : List (List Int)) (mb : Option MB), WinO W mb (.cells (zs.flatMap (ints [.i64, .i64])) 2 true false) ∧ (∀ (m : Mp) b, m b = mb → VR m (sl b 0 zs.length zs.length) v) ∧ SpC (zs.flatMap (ints [.i64, .i64])) 0 zs.length (spOf zs) := by
  obtain ⟨zs, mb, hw, hvr, hz, _⟩ := open_param_flat (ks := [.i64, .i64]) (d := 4) Try.underlying22 (by kernel_rfl) (by kernel_rfl) (by decide) hv hd
  exact ⟨zs, mb, hw, hvr, sp_flat hz⟩
/-- integers as they are handed over -/
theorem open_nums (hv : Value.okWide Try.prog W .any b0 24 v) (hd : DataW.Trod enc Try.prog W base (fun _ => true) true 24 v d p) :
    ∃ (zs : List (List Int)) (mb : Option MB), WinO W mb (.cells (zs.flatMap (ints [.i64])) 1 true false) ∧ (∀ (m : Mp) b, m b = mb → VR m (sl b 0 zs.length zs.length) v) ∧ InC (zs.flatMap (ints [.i64])) 0 zs.length (inOf zs) := by
  obtain ⟨zs, mb, hw, hvr, hz, _⟩ := open_param_flat (ks := [.i64]) (d := 3) Try.underlying24 (by kernel_rfl) (by kernel_rfl) (by decide) hv hd
  exact ⟨zs, mb, hw, hvr, in_flat hz⟩
theorem open_i (hv : Value.okWide Try.prog W .any b0 3 v) (hd : DataW.Trod enc Try.prog W base (fun _ => true) true 3 v d p) : ∃ x : Int, v = iv x := by
  obtain ⟨y, rfl, _, _, h⟩ := open_int (show Try.prog.underlying 3 = some (.int .i64) from by kernel_rfl) hv hd
  exact ⟨y, rfl⟩
end
end Go.Proofs.Ytfccmddkblbeoaa.rk
namespace Go.GE
end Go.GE
namespace Go.Proofs.Ytfccmddkblbeoaa.rk
open Go.GE
set_option linter.unusedVariables false
set_option linter.unusedSimpArgs false
set_option linter.unusedSectionVars false
set_option maxRecDepth 100000
set_option maxHeartbeats 4000000
def spAt (A : List (Int × Int)) (i : Nat) : Int × Int := A.getD i (0, 0)
end Go.Proofs.Ytfccmddkblbeoaa.rk
namespace Go.Proofs.Ytfccmddkblbeoaa.rk
open Go.GE
set_option linter.unusedVariables false
set_option linter.unusedSimpArgs false
set_option linter.unusedSectionVars false
set_option maxRecDepth 100000
set_option maxHeartbeats 4000000
/-- numbers as cells -/
def nm (L : List Nat) : List Value := L.map fun (x : Nat) => iv x
theorem nm_len {L : List Nat} : (nm L).length = L.length := by simp [nm]
theorem nm_app {L M : List Nat} : nm (L ++ M) = nm L ++ nm M := by simp [nm]
theorem nm_one {x : Nat} : nm [x] = [iv x] := rfl
theorem nm_nil : nm [] = [] := rfl
theorem nm_get {L : List Nat} {i : Nat} (h : i < L.length) : (nm L)[i]? = some (iv (L.getD i 0)) := by simp [nm, h]
abbrev nB (L : List Nat) : Blk := .cells (nm L) 1 true true
end Go.Proofs.Ytfccmddkblbeoaa.rk
namespace Go.Proofs.Ytfccmddkblbeoaa.rk
open Go.GE
set_option linter.unusedVariables false
set_option linter.unusedSimpArgs false
set_option linter.unusedSectionVars false
set_option maxRecDepth 100000
set_option maxHeartbeats 4000000
/-- spans that make a month -/
def OkM (A : List (Int × Int)) : Prop := 1 ≤ A.length ∧ A.length ≤ 30 ∧ ∀ a ∈ A, 0 ≤ a.1 ∧ a.1 ≤ a.2 ∧ a.2 ≤ 100000
theorem OkM.at {A : List (Int × Int)} (H : OkM A) {i : Nat} (hi : i < A.length) : 0 ≤ (spAt A i).1 ∧ (spAt A i).1 ≤ (spAt A i).2 ∧ (spAt A i).2 ≤ 100000 := by
  have e : spAt A i = A[i] := by simp [spAt, hi]
  rw [e]
  exact H.2.2 _ (List.getElem_mem hi)
end Go.Proofs.Ytfccmddkblbeoaa.rk
namespace Go.Proofs.Ytfccmddkblbeoaa.rk
open Go.GE
set_option linter.unusedVariables false
set_option linter.unusedSimpArgs false
set_option linter.unusedSectionVars false
set_option maxRecDepth 100000
set_option maxHeartbeats 4000000
theorem chk_ok {l : Nat → Int × Int} {n : Nat} (h : chkS l n = 0) : 0 < n ∧ n ≤ 30 := by
  unfold chkS at h
  by_cases h0 : n = 0
  · rw [if_pos h0] at h; omega
  · rw [if_neg h0] at h
    by_cases h2 : 30 < n
    · rw [if_pos h2] at h; omega
    · omega
end Go.Proofs.Ytfccmddkblbeoaa.rk
namespace Go.Proofs.Ytfccmddkblbeoaa.rk
open Go.GE
set_option linter.unusedVariables false
set_option linter.unusedSimpArgs false
set_option linter.unusedSectionVars false
set_option maxRecDepth 100000
set_option maxHeartbeats 4000000
theorem mk24 {σ : Tm} {h : List Blk} {d : Option Nat} {ty : TypeId} {pos : String} {af : Array Edge} {g : Option (Nat × Bool)} {x y : Operand} : aop Try.prog LL σ h ⟨d, .makeSlice 24 x y, ty, pos, af, g⟩ = (match opd σ x, opd σ y with
    | some (.int _ n), some (.int _ k) => if 0 ≤ n ∧ n ≤ k ∧ k * 8 ≤ 70368744177664 ∧ k ≤ 70368744177664 then allocR h (.cells (List.replicate k.toNat (iv 0)) 1 true true) fun b => .slice (some ⟨b, 0, none⟩) n.toNat k.toNat else none
    | _, _ => none) := by
  have e1 : Try.prog.underlying 24 = some (.slice 3) := by kernel_rfl
  have e2 : (Try.prog.info? 3).map (fun i => (i.bytes, i.size)) = some (8, 1) := by kernel_rfl
  have e3 : zeroA Try.prog 3 = some (iv 0) := by kernel_rfl
  obtain ⟨i, hi, hp⟩ := Option.map_eq_some_iff.1 e2
  obtain ⟨h8, h1⟩ := Prod.mk.inj hp
  have hfl : ∀ k : Nat, (List.replicate k [iv 0]).flatten = List.replicate k (iv 0) := fun k => List.flatten_replicate_singleton
  simp only [aop, e1, e2, e3, hi, h8, h1]
  cases opd σ x with
  | none => rfl
  | some v =>
    cases v <;> try rfl
    cases opd σ y with
    | none => rfl
    | some w =>
      cases w <;> try rfl
      rename_i k1 n k2 m
      simp only [e3, hi, h8, h1]
      by_cases hc : 0 ≤ n ∧ n ≤ m ∧ m * 8 ≤ 70368744177664 ∧ m ≤ 70368744177664
      · rw [if_pos hc, if_pos ⟨hc.1, hc.2.1, by have := hc.2.2.1; omega, by have := hc.2.2.2; omega, by decide, rfl⟩]
        show allocR h (.cells ((List.replicate m.toNat [iv 0]).flatten) 1 true true) _ = _
        rw [hfl]
      · rw [if_neg hc, if_neg (fun h => hc ⟨h.1, h.2.1, by have := h.2.2.1; omega, by have := h.2.2.2.1; omega⟩)]
end Go.Proofs.Ytfccmddkblbeoaa.rk
namespace Go.Proofs.Ytfccmddkblbeoaa.rk
open Go.GE
set_option linter.unusedVariables false
set_option linter.unusedSimpArgs false
set_option linter.unusedSectionVars false
set_option maxRecDepth 100000
set_option maxHeartbeats 4000000
attribute [local simp] runOps_nil runOps_cons runOpsF_nil runOpsF_cons fstS_some fstF_some opStep_eq want_none oStep_true oStep_false fin_pure fin_read fin_alloc fin_write storeB wrN cellV addWr o_move o_assign o_pick o_alloc o_box o_load o_store o_nilCheck o_bin o_un o_extract o_callV o_callB o_callI callV_f callV_y callV_fc o_makeFunc partsA Instr.fill builtin_len builtin_max2 bin_add bin_sub bin_mul bin_quo bin_rem bin_lss bin_leq bin_gtr bin_geq bin_eql bin_neq un_neg un_not bin_shr bin_shl wrap_u64_id opd opds optAll putO nbeq nblt constOk isC ops sub cl cr co bodyOf thenS_normal thenS_ret thenS_exit thenS_goto afterN_normal afterN_ret afterN_exit afterN_goto condS_true condS_false blockS_normal blockS_ret blockS_exit blockS_goto headS normS normK_eq fixS_nil fixS_cons fix1 fixV emptyB keepO_nil keepO_cons roundC_normal roundC_exit roundC_ret roundC_goto sweep_eq sweepD rnm pickR pickW rootsB ptrT renT ptrFn renFn ptrB_flat ptrB_non renB_flat renB_non plainS_some drawS_some fpsOk disj unord range' dropTo enumT undef wrap_i64_id Value.cells mkCells ptrTo scal cellsAt rdN endS_ret resultsA Option.bind_some tupV finish reachN dep ptrL_eq ptrL renL_eq renL ptrV_bool ptrV_int ptrV_string ptrV_nilFunc ptrV_nilIface ptrV_nilPtr ptrV_ptr ptrV_nilSl ptrV_sl ptrV_iface ptrV_agg ptrV_tuple ptrV_func renV_bool renV_int renV_string renV_nilFunc renV_nilIface renV_nilPtr renV_ptr renV_nilSl renV_sl renV_iface renV_agg renV_tuple renV_func gotoS_goto gotoS_normal gotoS_exit gotoS_ret skip_seq sliceE bnd bndHi intOf optOpd keepT_nil keepT_cons keepC_t keepC_f lk_nil lk_cons lkC_t lkC_f has_nil has_cons hasC_t hasC_f rep_nil rep_cons repC_t repC_f put_eq putC_t putC_f mem_nil mem_cons memC_t memC_f idx_nil idx_cons idxC_t idxC_f reach_nil reachP_cons reachQ_t reachQ_f ptrB_dead renB_dead ins_eq
attribute [local simp] n21_1s n21_4s n21_7s n21_8s n21_6s n21_9s n21_5s n21_3s n21_12s n21_17s n21_19s n21_20s n21_18s n21_16s n21_24s n21_27s n21_28s n21_26s n21_29s n21_25s n21_23s n21_22s n21_30s n21_21s n21_15s n21_14s n21_14g n21_13s n21_11s n21_32s n21_33s n21_31s n21_10s n21_2s n21_0s Try.f21
section
variable (L : List Nat)
theorem l21 (hL : L.length ≤ 60) : ∀ (k i : Nat), i + k = L.length →
    lpB Try.prog LL ⟨21, 26, 2, none⟩ n21_14 n21_15 ⟨[(0, sl 0 0 L.length L.length), (1, sl 1 0 L.length L.length), (5, iv i)], [nB L, nB L], []⟩ =
      some (.exit 0, ⟨[], [nB L, nB L], []⟩) := by
  intro k
  induction k with
  | zero =>
    intro i hi
    obtain rfl : i = L.length := by omega
    simp only [nB]
    generalize nm L = M
    rw [lpB_eq]
    simp (maxSteps := 1000000) (disch := first | omega | decide | assumption | simp [scal]) [lenA_sl lk_24, o_indexAddrS es_24, loadA_eq ia_3]
  | succ k ih =>
    intro i hi
    have e0 : i < L.length := by omega
    have e1 : (i : Int) < L.length := by omega
    have this := ih (i + 1) (by omega)
    have p1 := nm_get e0
    simp only [nB] at this ⊢
    simp only [cast1] at this
    generalize L.getD i 0 = x at *
    generalize nm L = M at *
    rw [lpB_eq]
    simp (maxSteps := 1000000) (disch := first | omega | decide | assumption | simp [scal]) [lenA_sl lk_24, o_indexAddrS es_24, loadA_eq ia_3, e0, e1, p1, this]
theorem k21 (b b2 : Nat) {h : List Blk} (hb : h[b]? = some (nB L)) (hb2 : h[b2]? = some (nB L)) (hne : b ≠ b2) (hL : L.length ≤ 60) : callH LL 21 [sl b 0 L.length L.length, sl b2 0 L.length L.length] h = some ⟨.bool true, h, [b, b2], []⟩ := by
  refine callH_2 rfl hb hb2 hne noIdB_flat noIdB_flat (so_ren hne rfl) (go (by decide) ?_) fun _ => rfl
  have this := l21 L hL L.length 0 (by omega)
  simp only [nB, Int.natCast_zero] at this ⊢
  generalize nm L = M at *
  rw [run21 _ _ _ (by simp)]
  simp (maxSteps := 1000000) (disch := first | omega | decide | assumption | simp [scal]) [lenA_sl lk_24, o_indexAddrS es_24, loadA_eq ia_3, this]
end
end Go.Proofs.Ytfccmddkblbeoaa.rk
namespace Go.Proofs.Ytfccmddkblbeoaa.rk
open Go.GE
set_option linter.unusedVariables false
set_option linter.unusedSimpArgs false
set_option linter.unusedSectionVars false
set_option maxRecDepth 100000
set_option maxHeartbeats 4000000
attribute [local simp] runOps_nil runOps_cons runOpsF_nil runOpsF_cons fstS_some fstF_some opStep_eq want_none oStep_true oStep_false fin_pure fin_read fin_alloc fin_write storeB wrN cellV addWr o_move o_assign o_pick o_alloc o_box o_load o_store o_nilCheck o_bin o_un o_extract o_callV o_callB o_callI callV_f callV_y callV_fc o_makeFunc partsA Instr.fill builtin_len builtin_max2 bin_add bin_sub bin_mul bin_quo bin_rem bin_lss bin_leq bin_gtr bin_geq bin_eql bin_neq un_neg un_not bin_shr bin_shl wrap_u64_id opd opds optAll putO nbeq nblt constOk isC ops sub cl cr co bodyOf thenS_normal thenS_ret thenS_exit thenS_goto afterN_normal afterN_ret afterN_exit afterN_goto condS_true condS_false blockS_normal blockS_ret blockS_exit blockS_goto headS normS normK_eq fixS_nil fixS_cons fix1 fixV emptyB keepO_nil keepO_cons roundC_normal roundC_exit roundC_ret roundC_goto sweep_eq sweepD rnm pickR pickW rootsB ptrT renT ptrFn renFn ptrB_flat ptrB_non renB_flat renB_non plainS_some drawS_some fpsOk disj unord range' dropTo enumT undef wrap_i64_id Value.cells mkCells ptrTo scal cellsAt rdN endS_ret resultsA Option.bind_some tupV finish reachN dep ptrL_eq ptrL renL_eq renL ptrV_bool ptrV_int ptrV_string ptrV_nilFunc ptrV_nilIface ptrV_nilPtr ptrV_ptr ptrV_nilSl ptrV_sl ptrV_iface ptrV_agg ptrV_tuple ptrV_func renV_bool renV_int renV_string renV_nilFunc renV_nilIface renV_nilPtr renV_ptr renV_nilSl renV_sl renV_iface renV_agg renV_tuple renV_func gotoS_goto gotoS_normal gotoS_exit gotoS_ret skip_seq sliceE bnd bndHi intOf optOpd keepT_nil keepT_cons keepC_t keepC_f lk_nil lk_cons lkC_t lkC_f has_nil has_cons hasC_t hasC_f rep_nil rep_cons repC_t repC_f put_eq putC_t putC_f mem_nil mem_cons memC_t memC_f idx_nil idx_cons idxC_t idxC_f reach_nil reachP_cons reachQ_t reachQ_f ptrB_dead renB_dead ins_eq
attribute [local simp] n71_1s n71_3s n71_4s n71_2s n71_0s Try.f71 n54_1s n54_3s n54_4s n54_2s n54_0s Try.f54 n53_1s n53_4s n53_7s n53_8s n53_6s n53_9s n53_5s n53_3s n53_11s n53_14s n53_18s n53_21s n53_22s n53_20s n53_26s n53_28s n53_31s n53_32s n53_30s n53_33s n53_29s n53_27s n53_25s n53_24s n53_34s n53_23s n53_19s n53_17s n53_16s n53_16g n53_15s n53_13s n53_36s n53_37s n53_35s n53_12s n53_10s n53_2s n53_0s Try.f53
theorem k71 (M i : Nat) (hM : M < 2 ^ 32) (hi : i < 32) (h : List Blk) : callH LL 71 [wv M, iv i] h = some ⟨.bool (M.testBit i), h, [], []⟩ := by
  refine callH_none rfl (fun _ => rfl) (go (by decide) ?_) fun _ => rfl
  have f1 := @fdiv_poww M i hi
  have hq : M / 2 ^ i < 2 ^ 32 := by have := Nat.div_le_self M (2 ^ i); omega
  have f2 := fun c => @bin_and1w Try.prog 77 c _ hq
  rw [Nat.testBit_eq_decide_div_mod_eq]
  generalize M / 2 ^ i = q at *
  rw [run71 _ _ _ (by simp)]
  by_cases h1 : q % 2 = 1
  · have h1' := eq_true (show (q : Int) % 2 = 1 by omega)
    simp (maxSteps := 1000000) (disch := first | omega | decide | assumption | simp [scal]) [f1, f2, h1, h1']
  · have h1' : ¬ (q : Int) % 2 = 1 := by omega
    simp (maxSteps := 1000000) (disch := first | omega | decide | assumption | simp [scal]) [f1, f2, h1, h1']
theorem k54 (M i : Nat) (hM : M < 2 ^ 32) (hi : i < 32) (h : List Blk) : callH LL 54 [wv M, iv i] h = some ⟨wv (M ||| 2 ^ i), h, [], []⟩ := by
  refine callH_none rfl (fun _ => rfl) (go (by decide) ?_) fun _ => rfl
  have f3 := shl_poww hi
  have p1 : 2 ^ i < 2 ^ 32 := Nat.pow_lt_pow_right (by decide) hi
  have f4 := fun c => @bin_orw Try.prog 77 c M (2 ^ i) hM p1
  generalize ((2 ^ i : Nat) : Int) = Q at *
  rw [run54 _ _ _ (by simp)]
  simp (maxSteps := 1000000) (disch := first | omega | decide | assumption | simp [scal]) [f3, f4]
/-- no day that is left, from the j-th one on, is surely quieter -/
def nxK (l : Nat → Int × Int) (M i : Nat) : Nat → Nat → Bool
  | 0, _ => true
  | k + 1, j => if !M.testBit j && quiet l j i then false else nxK l M i k (j + 1)
def nxB (l : Nat → Int × Int) (n M i : Nat) : Bool := !M.testBit i && nxK l M i n 0
section
variable (off n c : Nat) {cs : List Value} {own : Bool} {l : Nat → Int × Int}
theorem l53 (hc : SpC cs off n l) (hn : n ≤ 30) (M i : Nat) (hM : M < 2 ^ 32) (hi : i < n) : ∀ (k j : Nat), j + k = n →
    lpB Try.prog LL ⟨53, 30, 1, none⟩ n53_16 n53_17 ⟨[(1, wv M), (2, iv i), (7, .func (.func 77) #[sl 0 off n c] #[]), (15, iv n), (16, iv j)], [.cells cs 2 true own], []⟩ =
      if nxK l M i k j = true then some (.exit 0, ⟨[], [.cells cs 2 true own], []⟩) else some (.ret, ⟨[(6, .bool false)], [.cells cs 2 true own], []⟩) := by
  intro k
  induction k with
  | zero =>
    intro j hj
    obtain rfl : j = n := by omega
    rw [lpB_eq]
    simp (maxSteps := 1000000) (disch := first | omega | decide | assumption | simp [scal]) [lenA_sl lk_78, want_some q53_28g4, nxK]
  | succ k ih =>
    intro j hj
    have e1 : (j : Int) < n := by omega
    have a1 := fun bx => k77 0 off n c (h := .cells cs 2 true own :: bx) rfl hc j i (by omega) hi
    have a2 := k71 M j hM (by omega)
    have this := ih (j + 1) (by omega)
    unfold nxK
    simp only [cast1] at this
    generalize quiet l j i = x at *
    generalize M.testBit j = y at *
    rw [lpB_eq]
    cases x <;> cases y <;> simp only [Bool.not_true, Bool.not_false, Bool.and_true, Bool.and_false, Bool.false_eq_true, if_false, if_true]
    · simp (maxSteps := 1000000) (disch := first | omega | decide | assumption | simp [scal]) [lenA_sl lk_78, want_some q53_28g4, e1, a1, a2, callV_fc, this]
    · simp (maxSteps := 1000000) (disch := first | omega | decide | assumption | simp [scal]) [lenA_sl lk_78, want_some q53_28g4, e1, a1, a2, callV_fc, this]
    · simp (maxSteps := 1000000) (disch := first | omega | decide | assumption | simp [scal]) [lenA_sl lk_78, want_some q53_28g4, e1, a1, a2, callV_fc]
    · simp (maxSteps := 1000000) (disch := first | omega | decide | assumption | simp [scal]) [lenA_sl lk_78, want_some q53_28g4, e1, a1, a2, callV_fc, this]
end
section
variable (b off n c : Nat) {cs : List Value} {own : Bool} {l : Nat → Int × Int} {h : List Blk} (hb : h[b]? = some (.cells cs 2 true own)) (hc : SpC cs off n l)
include hb hc
theorem k53 (hn : n ≤ 30) (M i : Nat) (hM : M < 2 ^ 32) (hi : i < n) : callH LL 53 [sl b off n c, wv M, iv i] h = some ⟨.bool (nxB l n M i), h, [b], []⟩ := by
  refine callH_1 rfl hb noIdB_flat (args' := [sl 0 off n c, wv M, iv i]) (by simp [renV, dep, optAll, idx, nbeq]) (go (by decide) ?_) fun _ => rfl
  have a2 := k71 M i hM (by omega)
  have this := l53 off n c (own := own) hc hn M i hM hi n 0 (by omega)
  simp only [Int.natCast_zero] at this
  unfold nxB
  rw [run53 _ _ _ (by simp)]
  generalize M.testBit i = y at *
  cases y
  · cases h1 : nxK l M i n 0 <;> rw [h1] at this <;> simp only [Bool.false_eq_true, if_false, if_true] at this
    · simp (maxSteps := 1000000) (disch := first | omega | decide | assumption | simp [scal]) [lenA_sl lk_78, want_some q53_28g4, a2, this]
    · simp (maxSteps := 1000000) (disch := first | omega | decide | assumption | simp [scal]) [lenA_sl lk_78, want_some q53_28g4, a2, this]
  · simp (maxSteps := 1000000) (disch := first | omega | decide | assumption | simp [scal]) [lenA_sl lk_78, want_some q53_28g4, a2]
end
end Go.Proofs.Ytfccmddkblbeoaa.rk
namespace Go.Proofs.Ytfccmddkblbeoaa.rk
open Go.GE
set_option linter.unusedVariables false
set_option linter.unusedSimpArgs false
set_option linter.unusedSectionVars false
set_option maxRecDepth 100000
set_option maxHeartbeats 4000000
/-- how many of the first n days are left -/
def cntU : Nat → Nat → Nat
  | 0, _ => 0
  | n + 1, M => cntU n M + if M.testBit n then 0 else 1
theorem bit_or {M i t : Nat} : (M ||| 2 ^ i).testBit t = (M.testBit t || decide (i = t)) := by rw [Nat.testBit_or, Nat.testBit_two_pow]
theorem cntU_ge {M i : Nat} : ∀ n, n ≤ i → cntU n (M ||| 2 ^ i) = cntU n M := by
  intro n
  induction n with
  | zero => intro _; rfl
  | succ n ih =>
    intro h
    simp only [cntU, ih (by omega), bit_or, show ¬ i = n by omega, decide_false, Bool.or_false]
theorem cntU_lt {M i : Nat} (hM : M.testBit i = false) : ∀ n, i < n → cntU n (M ||| 2 ^ i) + 1 = cntU n M := by
  intro n
  induction n with
  | zero => intro h; omega
  | succ n ih =>
    intro h
    by_cases hi : i = n
    · subst hi
      simp only [cntU, cntU_ge i (Nat.le_refl _), bit_or, decide_true, Bool.or_true, hM, if_true]
      simp
    · have := ih (by omega)
      simp only [cntU, bit_or, hi, decide_false, Bool.or_false]
      omega
theorem cntU_zero {n : Nat} : cntU n 0 = n := by
  induction n with
  | zero => rfl
  | succ n ih => simp [cntU, ih]
end Go.Proofs.Ytfccmddkblbeoaa.rk
namespace Go.Proofs.Ytfccmddkblbeoaa.rk
open Go.GE
set_option linter.unusedVariables false
set_option linter.unusedSimpArgs false
set_option linter.unusedSectionVars false
set_option maxRecDepth 100000
set_option maxHeartbeats 4000000
/-- a call, a step at a time -/
theorem callH_lit {f : FuncId} {args args' : List Value} {h hm h' : List Blk} {roots ρ : List Nat} {rr : RR} {v : Value} {rd wr : List Nat} (hk : idle LL f args) (h1 : args.flatMap (ptrV dep) = roots) (h2 : reach h 0 reachN roots [] = ρ) (h3 : optAll (renV (idx ρ) dep) args = some args')
    (h4 : optAll (pickB h (idx ρ)) ρ = some hm) (h5 : LL.run f args' hm = some rr) (h6 : mergeB h ρ rr = some ⟨v, h', rd, wr⟩) (hrd : ∀ b, b ∈ rd → b < h.length) : callH LL f args h = some ⟨v, h', rd, wr⟩ := by
  refine callH_of hk ?_ hrd
  subst h1 h2
  show (match optAll (renV (idx _) dep) args, optAll (pickB h (idx _)) _ with
    | some args', some hm => match LL.run f args' hm with
      | some rr => mergeB h _ rr
      | none => none
    | _, _ => none) = _
  rw [h3, h4]
  simp only [h5]
  exact h6
theorem cntU_none {M : Nat} : ∀ n, cntU n M = 0 → ∀ i, i < n → M.testBit i = true := by
  intro n
  induction n with
  | zero => intro _ i hi; omega
  | succ n ih =>
    intro h i hi
    simp only [cntU] at h
    by_cases e : i = n
    · subst e
      cases hb : M.testBit i
      · rw [hb] at h; simp at h
      · rfl
    · exact ih (by omega) i (by omega)
end Go.Proofs.Ytfccmddkblbeoaa.rk
namespace Go.Proofs.Ytfccmddkblbeoaa.rk
open Go.GE
set_option linter.unusedVariables false
set_option linter.unusedSimpArgs false
set_option linter.unusedSectionVars false
set_option maxRecDepth 100000
set_option maxHeartbeats 4000000
def mE (es : List (Nat × Nat)) : List (Value × Value) := es.map fun p => (wv p.1, iv p.2)
def fmB (es : List (Nat × Nat)) : Blk := .map (mE es)
theorem findA_mE {M : Nat} : ∀ (es : List (Nat × Nat)) (j : Nat), (∃ (i v : Nat), findA (wv M) (mE es) j = some (some (j + i, iv v)) ∧ es[i]? = some (M, v)) ∨ (findA (wv M) (mE es) j = some none ∧ ∀ p, p ∈ es → p.1 ≠ M) := by
  intro es
  induction es with
  | nil => intro j; exact .inr ⟨rfl, fun p hp => by cases hp⟩
  | cons q es ih =>
    intro j
    obtain ⟨x, v⟩ := q
    have e : findA (wv M) (mE ((x, v) :: es)) j = if M = x then some (some (j, iv v)) else findA (wv M) (mE es) (j + 1) := by
      simp only [mE, List.map_cons, findA, sameK]
      by_cases h : M = x
      · subst h; simp
      · have : ((M : Int) == (x : Int)) = false := by simp; omega
        simp [h, this]
    by_cases h : M = x
    · subst h
      refine .inl ⟨0, v, ?_, rfl⟩
      rw [e, if_pos rfl]; rfl
    · rcases ih (j + 1) with ⟨i, u, h1, h2⟩ | ⟨h1, h2⟩
      · refine .inl ⟨i + 1, u, ?_, h2⟩
        rw [e, if_neg h, h1, show j + 1 + i = j + (i + 1) by omega]
      · refine .inr ⟨by rw [e, if_neg h, h1], fun p hp => ?_⟩
        rcases List.mem_cons.1 hp with rfl | hp
        · exact fun hh => h hh.symm
        · exact h2 p hp
theorem mE_set {es : List (Nat × Nat)} {i M v : Nat} : (mE es).set i (wv M, iv v) = mE (es.set i (M, v)) := by simp [mE, List.map_set]
theorem mE_app {es : List (Nat × Nat)} {M v : Nat} : mE es ++ [(wv M, iv v)] = mE (es ++ [(M, v)]) := by simp [mE]
theorem renP_mE {f : Nat → Option Nat} : ∀ {es : List (Nat × Nat)}, renP f (mE es) = some (mE es) := by
  intro es
  induction es with
  | nil => rfl
  | cons q es ih =>
    have : mE (q :: es) = (wv q.1, iv q.2) :: mE es := rfl
    rw [this]
    simp only [renP, ih]
    rfl
theorem fm_ren {f : Nat → Option Nat} {es : List (Nat × Nat)} : renB f (fmB es) = some (fmB es) := by
  simp only [fmB, renB, renP_mE, Option.map_some]
theorem fm_ptr {es : List (Nat × Nat)} : ptrB (fmB es) = [] := by
  simp only [fmB, ptrB, List.flatMap_eq_nil_iff]
  intro p hp
  simp only [mE, List.mem_map] at hp
  obtain ⟨q, _, rfl⟩ := hp
  rfl
theorem ptrV_map {d b : Nat} : ptrV (d + 1) (.map (some b)) = [b] := rfl
theorem renV_map {f : Nat → Option Nat} {d b : Nat} : renV f (d + 1) (.map (some b)) = (f b).map fun b' => .map (some b') := rfl
/-- a look-up -/
def lookM (h : List Blk) (b M : Nat) : Option OR := match h[b]? with
  | some (.map es) => match findA (wv M) es 0 with
    | some r => some ⟨.tuple #[(r.map (·.2)).getD (iv 0), .bool r.isSome], h, [b], []⟩
    | none => none
  | _ => none
def updM (h : List Blk) (b M : Nat) (v : Value) : Option OR := match h[b]? with
  | some (.map es) => match findA (wv M) es 0 with
    | some (some (i, _)) => some ⟨undef, h.set b (.map (es.set i (wv M, v))), [b], [b]⟩
    | some none => some ⟨undef, h.set b (.map (es ++ [(wv M, v)])), [b], [b]⟩
    | none => none
  | _ => none
/-- a look-up, its operands told -/
def lookX (P : Program) (t : TypeId) (h : List Blk) (x k : Option Value) (ok : Bool) : Option OR := match P.underlying t, x, k with
    | some (.map kt et), some (.map m), some kv => match P.underlying kt, zeroA P et, (match m with | none => some ([], []) | some b => (mapAt h b).map fun es => (es, [b])) with
      | some kd, some z, some (es, rd) => cond (keyKind kd kv) (match findA kv es 0 with
        | some r => some ⟨if ok then .tuple #[(r.map (·.2)).getD z, .bool r.isSome] else (r.map (·.2)).getD z, h, rd, []⟩
        | none => none) none
      | _, _, _ => none
    | _, _, _ => none
def updX (P : Program) (t : TypeId) (h : List Blk) (m k v : Option Value) : Option OR := match m, k, v with
    | some m, some k, some v => updA P h t m k v
    | _, _, _ => none
section
variable {σ : Tm} {h : List Blk} {d : Option Nat} {ty : TypeId} {pos : String} {af : Array Edge} {g : Option (Nat × Bool)} {t : TypeId} {x y z : Operand} {ok : Bool}
theorem o_look : aop Try.prog LL σ h ⟨d, .lookup t x y ok, ty, pos, af, g⟩ = lookX Try.prog t h (opd σ x) (opd σ y) ok := rfl
theorem o_mapU : aop Try.prog LL σ h ⟨d, .mapUpdate t x y z, ty, pos, af, g⟩ = updX Try.prog t h (opd σ x) (opd σ y) (opd σ z) := rfl
theorem o_insert : aop Try.prog LL σ h ⟨d, .insert t x y z, ty, pos, af, g⟩ = updX Try.prog t h (opd σ x) (opd σ y) (opd σ z) := rfl
end
theorem look108 {h : List Blk} {b M : Nat} : lookX Try.prog 108 h (some (.map (some b))) (some (wv M)) true = lookM h b M := by
  have e1 : Try.prog.underlying 108 = some (.map 77 3) := by kernel_rfl
  have e2 : Try.prog.underlying 77 = some (.int .u32) := by kernel_rfl
  have e3 : zeroA Try.prog 3 = some (iv 0) := by kernel_rfl
  simp only [lookX, e1, e2, e3, lookM, mapAt]
  rcases h[b]? with _ | blk
  · rfl
  · cases blk <;> first | rfl | (simp [keyKind]; done) | (simp [keyKind]; rfl)
theorem upd108 {h : List Blk} {b M : Nat} {v : Value} : updX Try.prog 108 h (some (.map (some b))) (some (wv M)) (some v) = updM h b M v := by
  have e1 : Try.prog.underlying 108 = some (.map 77 3) := by kernel_rfl
  have e2 : Try.prog.underlying 77 = some (.int .u32) := by kernel_rfl
  simp only [updX, updA, e1, e2, updM, mapAt]
  rcases h[b]? with _ | blk
  · rfl
  · cases blk <;> first | rfl | (simp [keyKind]; done) | (simp [keyKind]; rfl)
theorem o_makeMap {σ : Tm} {h : List Blk} {d : Option Nat} {ty : TypeId} {pos : String} {af : Array Edge} {g : Option (Nat × Bool)} {t : TypeId} : aop Try.prog LL σ h ⟨d, .makeMap t none, ty, pos, af, g⟩ = allocR h (.map []) fun b => .map (some b) := rfl
theorem look_hit {h : List Blk} {b M i v : Nat} {es : List (Nat × Nat)} (hb : h[b]? = some (fmB es)) (hf : findA (wv M) (mE es) 0 = some (some (i, iv v))) : lookM h b M = some ⟨.tuple #[iv v, .bool true], h, [b], []⟩ := by
  simp only [lookM, hb, fmB, hf]; rfl
theorem look_miss {h : List Blk} {b M : Nat} {es : List (Nat × Nat)} (hb : h[b]? = some (fmB es)) (hf : findA (wv M) (mE es) 0 = some none) : lookM h b M = some ⟨.tuple #[iv 0, .bool false], h, [b], []⟩ := by
  simp only [lookM, hb, fmB, hf]; rfl
/-- what an update leaves -/
def updE (es : List (Nat × Nat)) (M v : Nat) : List (Nat × Nat) := match findA (wv M) (mE es) 0 with
  | some (some (i, _)) => es.set i (M, v)
  | _ => es ++ [(M, v)]
theorem upd_eq {h : List Blk} {b M v : Nat} {es : List (Nat × Nat)} (hb : h[b]? = some (fmB es)) : updM h b M (iv v) = some ⟨undef, h.set b (fmB (updE es M v)), [b], [b]⟩ := by
  simp only [updM, hb, fmB, updE]
  rcases findA_mE (M := M) es 0 with ⟨i, u, h1, _⟩ | ⟨h1, _⟩ <;> rw [h1] <;> simp only [mE_set, mE_app]
theorem updE_mem {es : List (Nat × Nat)} {M v : Nat} {p : Nat × Nat} (hp : p ∈ updE es M v) : p ∈ es ∨ p = (M, v) := by
  unfold updE at hp
  split at hp
  · exact List.mem_or_eq_of_mem_set hp
  · rcases List.mem_append.1 hp with h | h
    · exact .inl h
    · exact .inr (List.mem_singleton.1 h)
theorem updE_key {es : List (Nat × Nat)} {M v K : Nat} (h : ∃ p, p ∈ es ∧ p.1 = K) : ∃ p, p ∈ updE es M v ∧ p.1 = K := by
  obtain ⟨p, hp, hk⟩ := h
  unfold updE
  rcases findA_mE (M := M) es 0 with ⟨i, u, h1, h2⟩ | ⟨h1, _⟩ <;> rw [h1] <;> simp only
  · obtain ⟨j, hj⟩ := List.getElem?_of_mem hp
    rw [Nat.zero_add]
    by_cases hij : i = j
    · subst hij
      rw [h2] at hj; cases hj
      have hl : i < es.length := (List.getElem?_eq_some_iff.1 h2).1
      exact ⟨(M, v), List.mem_of_getElem? (i := i) (by rw [List.getElem?_set]; simp [hl]), hk⟩
    · exact ⟨p, List.mem_of_getElem? (i := j) (by rw [List.getElem?_set]; simp [hij, hj]), hk⟩
  · exact ⟨p, by simp [hp], hk⟩
end Go.Proofs.Ytfccmddkblbeoaa.rk
namespace Go.Proofs.Ytfccmddkblbeoaa.rk
open Go.GE
set_option linter.unusedVariables false
set_option linter.unusedSimpArgs false
set_option linter.unusedSectionVars false
set_option maxRecDepth 100000
set_option maxHeartbeats 4000000
attribute [local simp] runOps_nil runOps_cons runOpsF_nil runOpsF_cons fstS_some fstF_some opStep_eq want_none oStep_true oStep_false fin_pure fin_read fin_alloc fin_write storeB wrN cellV addWr o_move o_assign o_pick o_alloc o_box o_load o_store o_nilCheck o_bin o_un o_extract o_callV o_callB o_callI callV_f callV_y callV_fc o_makeFunc partsA Instr.fill builtin_len builtin_max2 bin_add bin_sub bin_mul bin_quo bin_rem bin_lss bin_leq bin_gtr bin_geq bin_eql bin_neq un_neg un_not bin_shr bin_shl wrap_u64_id opd opds optAll putO nbeq nblt constOk isC ops sub cl cr co bodyOf thenS_normal thenS_ret thenS_exit thenS_goto afterN_normal afterN_ret afterN_exit afterN_goto condS_true condS_false blockS_normal blockS_ret blockS_exit blockS_goto headS normS normK_eq fixS_nil fixS_cons fix1 fixV emptyB keepO_nil keepO_cons roundC_normal roundC_exit roundC_ret roundC_goto sweep_eq sweepD rnm pickR pickW rootsB ptrT renT ptrFn renFn ptrB_flat ptrB_non renB_flat renB_non plainS_some drawS_some fpsOk disj unord range' dropTo enumT undef wrap_i64_id Value.cells mkCells ptrTo scal cellsAt rdN endS_ret resultsA Option.bind_some tupV finish reachN dep ptrL_eq ptrL renL_eq renL ptrV_bool ptrV_int ptrV_string ptrV_nilFunc ptrV_nilIface ptrV_nilPtr ptrV_ptr ptrV_nilSl ptrV_sl ptrV_iface ptrV_agg ptrV_tuple ptrV_func renV_bool renV_int renV_string renV_nilFunc renV_nilIface renV_nilPtr renV_ptr renV_nilSl renV_sl renV_iface renV_agg renV_tuple renV_func gotoS_goto gotoS_normal gotoS_exit gotoS_ret skip_seq sliceE bnd bndHi intOf optOpd keepT_nil keepT_cons keepC_t keepC_f lk_nil lk_cons lkC_t lkC_f has_nil has_cons hasC_t hasC_f rep_nil rep_cons repC_t repC_f put_eq putC_t putC_f mem_nil mem_cons memC_t memC_f idx_nil idx_cons idxC_t idxC_f reach_nil reachP_cons reachQ_t reachQ_f ptrB_dead renB_dead ins_eq
attribute [local simp] n78_1s n78_3s n78_4s n78_2s n78_0s Try.f78
def cS (f : Nat → Nat) : Nat → Nat → Nat → Nat
  | 0, _, a => a
  | k + 1, i, a => cS f k (i + 1) (a + f i)
def cR (nx : Nat → Nat → Bool) (n : Nat) : Nat → Nat → Nat
  | 0, _ => 1
  | k + 1, M => cS (fun i => cond (nx M i) (cR nx n k (M ||| 2 ^ i)) 0) n 0 0
def cF (nx : Nat → Nat → Bool) (n k M : Nat) : Nat → Nat := fun i => cond (nx M i) (cR nx n k (M ||| 2 ^ i)) 0
theorem cS_le {f : Nat → Nat} {B : Nat} (h : ∀ i, f i ≤ B) : ∀ k i a, cS f k i a ≤ a + k * B := by
  intro k
  induction k with
  | zero => intro i a; simp [cS]
  | succ k ih =>
    intro i a
    have := ih (i + 1) (a + f i)
    have := h i
    simp only [cS, Nat.add_mul]
    omega
theorem cR_le {nx : Nat → Nat → Bool} {n : Nat} : ∀ k M, cR nx n k M ≤ n ^ k := by
  intro k
  induction k with
  | zero => intro M; simp [cR]
  | succ k ih =>
    intro M
    have := cS_le (f := fun i => cond (nx M i) (cR nx n k (M ||| 2 ^ i)) 0) (B := n ^ k) (fun i => by
      cases nx M i
      · exact Nat.zero_le _
      · exact ih _) n 0 0
    simp only [cR]
    rw [Nat.pow_succ, Nat.mul_comm]
    omega
theorem pow_le12 {n k : Nat} (hn : n ≤ 12) (hk : k ≤ 12) : n ^ k ≤ 8916100448256 := by
  have h1 : n ^ k ≤ 12 ^ k := Nat.pow_le_pow_left hn k
  have h2 : 12 ^ k ≤ 12 ^ 12 := Nat.pow_le_pow_right (by decide) hk
  have h3 : (12 : Nat) ^ 12 = 8916100448256 := by decide
  omega
theorem cntU_le {n M : Nat} : cntU n M ≤ n := by
  induction n with
  | zero => exact Nat.le_refl _
  | succ n ih => simp only [cntU]; split <;> omega
theorem all_bits {n M : Nat} (hM : M < 2 ^ n) (h : cntU n M = 0) : M = 2 ^ n - 1 := by
  apply Nat.eq_of_testBit_eq
  intro i
  rw [Nat.testBit_two_pow_sub_one]
  by_cases hi : i < n
  · rw [cntU_none n h i hi]; simp [hi]
  · rw [Nat.testBit_lt_two_pow (Nat.lt_of_lt_of_le hM (Nat.pow_le_pow_right (by decide) (by omega)))]; simp [hi]
theorem cntU_all {n : Nat} : ∀ k, k ≤ n → cntU k (2 ^ n - 1) = 0 := by
  intro k
  induction k with
  | zero => intro _; rfl
  | succ k ih => intro h; simp only [cntU, ih (by omega), Nat.testBit_two_pow_sub_one, show k < n by omega, decide_true, if_true]
/-- what the table holds is true -/
def InvR (nx : Nat → Nat → Bool) (n : Nat) (es : List (Nat × Nat)) : Prop := (∀ p, p ∈ es → p.1 < 2 ^ n ∧ p.2 = cR nx n (cntU n p.1) p.1) ∧ ∃ p, p ∈ es ∧ p.1 = 2 ^ n - 1
theorem InvR.upd {nx : Nat → Nat → Bool} {n : Nat} {es : List (Nat × Nat)} (h : InvR nx n es) {M : Nat} (hM : M < 2 ^ n) : InvR nx n (updE es M (cR nx n (cntU n M) M)) := by
  refine ⟨fun p hp => ?_, updE_key h.2⟩
  rcases updE_mem hp with hp | rfl
  · exact h.1 p hp
  · exact ⟨hM, rfl⟩
abbrev mayB : Blk := .cells [.func (.func 78) #[] #[]] 1 false true
section
variable (off n c : Nat) (cs : List Value) (own : Bool)
abbrev HR0 (es eb : List (Nat × Nat)) : List Blk := [.cells [.map (some 1), .func (.func 80) #[] #[pp 2, pp 4, pp 5]] 1 false true, fmB es, .cells [sl 3 off n c] 1 false true, .cells cs 2 true own, mayB,
  .cells [pp 6] 1 false true, .cells [sl 3 off n c, pp 0, pp 7] 1 false true, .cells [.map (some 8), .func (.func 81) #[] #[pp 2, pp 5]] 1 false true, fmB eb]
abbrev HC0 (es eb : List (Nat × Nat)) : List Blk := [.cells [sl 1 off n c] 1 false true, .cells cs 2 true own, mayB, .cells [pp 4] 1 false true, .cells [sl 1 off n c, pp 5, pp 7] 1 false true,
  .cells [.map (some 6), .func (.func 80) #[] #[pp 0, pp 2, pp 3]] 1 false true, fmB es, .cells [.map (some 8), .func (.func 81) #[] #[pp 0, pp 3]] 1 false true, fmB eb]
theorem k78 (M i : Nat) (h : List Blk) : callH LL 78 [wv M, iv i] h = some ⟨.bool true, h, [], []⟩ := by
  refine callH_plain (go (by decide) ?_) rfl rfl
  rw [run78 _ _ _ (by simp)]
  simp (maxSteps := 1000000) (disch := first | omega | decide | assumption | simp [scal])
theorem rchC (es eb : List (Nat × Nat)) : reach (HC0 off n c cs own es eb) 0 reachN [5] [] = [5, 6, 0, 1, 2, 3, 4, 7, 8] := by
  simp only [reachP_cons, nblt, nbeq, mem_nil, mem_cons, memC_t, memC_f, reachQ_f, reachQ_t, Bool.or_false, Bool.or_true, Bool.false_or, Bool.true_or, decide_false, decide_true, Nat.not_lt_zero, rootsB, List.getElem?_cons_succ, List.getElem?_cons_zero, ptrB_non, ptrB_flat, ptrL_eq, ptrL, ptrV_bool, ptrV_int, ptrV_string, ptrV_nilFunc, ptrV_nilIface, ptrV_nilPtr, ptrV_nilSl, ptrV_iface, ptrV_agg, ptrV_tuple, ptrV_func, ptrV_ptr, ptrV_sl, dep, ptrFn, List.nil_append, List.cons_append, List.append_nil, reach_nil, reachN, Nat.reduceEqDiff, Nat.reduceAdd, Nat.reduceSub, reduceCtorEq, Nat.reduceLT, Nat.lt_irrefl, List.flatMap_cons, List.flatMap_nil, optAll, renL_eq, renL, renB_flat, renB_non, renV_bool, renV_int, renV_string, renV_nilFunc, renV_nilIface, renV_nilPtr, renV_ptr, renV_nilSl, renV_sl, renV_iface, renV_agg, renV_tuple, renV_func, renFn, idx_nil, idx_cons, idxC_t, idxC_f, Option.map_some, Option.map_none, fm_ptr, ptrV_map]
theorem pickC (es eb : List (Nat × Nat)) : optAll (pickB (HC0 off n c cs own es eb) (idx [5, 6, 0, 1, 2, 3, 4, 7, 8])) [5, 6, 0, 1, 2, 3, 4, 7, 8] = some (HR0 off n c cs own es eb) := by
  simp (maxSteps := 1000000) (disch := first | omega | decide | assumption | simp [scal]) [pickB, renV_map, fm_ren]
theorem callG0 {es es' eb : List (Nat × Nat)} {M v : Nat} {ws : List (Nat × Blk)} (h : LL.run 60 [pp 0, wv M] (HR0 off n c cs own es eb) = some ⟨iv v, [], ws⟩) (hw : (ws = [] ∧ es' = es) ∨ ws = [(1, fmB es')]) :
    ∃ wr, ((wr = [] ∧ es' = es) ∨ wr = [6]) ∧ callH LL 60 [pp 5, wv M] (HC0 off n c cs own es eb) = some ⟨iv v, HC0 off n c cs own es' eb, [5, 6, 0, 1, 2, 3, 4, 7, 8], wr⟩ := by
  rcases hw with ⟨rfl, rfl⟩ | rfl
  · exact ⟨[], .inl ⟨rfl, rfl⟩, callH_lit (by intro _; first | trivial | rfl) rfl (rchC ..) rfl (pickC ..) h (by simp [mergeB, renV_int, dep, optAll]) (by simp)⟩
  · exact ⟨[6], .inr rfl, callH_lit (by intro _; first | trivial | rfl) rfl (rchC ..) rfl (pickC ..) h (by simp [mergeB, renV_int, dep, optAll, fm_ren]) (by simp)⟩
end
end Go.Proofs.Ytfccmddkblbeoaa.rk
namespace Go.Proofs.Ytfccmddkblbeoaa.rk
open Go.GE
set_option linter.unusedVariables false
set_option linter.unusedSimpArgs false
set_option linter.unusedSectionVars false
set_option maxRecDepth 100000
set_option maxHeartbeats 4000000
attribute [local simp] runOps_nil runOps_cons runOpsF_nil runOpsF_cons fstS_some fstF_some opStep_eq want_none oStep_true oStep_false fin_pure fin_read fin_alloc fin_write storeB wrN cellV addWr o_move o_assign o_pick o_alloc o_box o_load o_store o_nilCheck o_bin o_un o_extract o_callV o_callB o_callI callV_f callV_y callV_fc o_makeFunc partsA Instr.fill builtin_len builtin_max2 bin_add bin_sub bin_mul bin_quo bin_rem bin_lss bin_leq bin_gtr bin_geq bin_eql bin_neq un_neg un_not bin_shr bin_shl wrap_u64_id opd opds optAll putO nbeq nblt constOk isC ops sub cl cr co bodyOf thenS_normal thenS_ret thenS_exit thenS_goto afterN_normal afterN_ret afterN_exit afterN_goto condS_true condS_false blockS_normal blockS_ret blockS_exit blockS_goto headS normS normK_eq fixS_nil fixS_cons fix1 fixV emptyB keepO_nil keepO_cons roundC_normal roundC_exit roundC_ret roundC_goto sweep_eq sweepD rnm pickR pickW rootsB ptrT renT ptrFn renFn ptrB_flat ptrB_non renB_flat renB_non plainS_some drawS_some fpsOk disj unord range' dropTo enumT undef wrap_i64_id Value.cells mkCells ptrTo scal cellsAt rdN endS_ret resultsA Option.bind_some tupV finish reachN dep ptrL_eq ptrL renL_eq renL ptrV_bool ptrV_int ptrV_string ptrV_nilFunc ptrV_nilIface ptrV_nilPtr ptrV_ptr ptrV_nilSl ptrV_sl ptrV_iface ptrV_agg ptrV_tuple ptrV_func renV_bool renV_int renV_string renV_nilFunc renV_nilIface renV_nilPtr renV_ptr renV_nilSl renV_sl renV_iface renV_agg renV_tuple renV_func gotoS_goto gotoS_normal gotoS_exit gotoS_ret skip_seq sliceE bnd bndHi intOf optOpd keepT_nil keepT_cons keepC_t keepC_f lk_nil lk_cons lkC_t lkC_f has_nil has_cons hasC_t hasC_f rep_nil rep_cons repC_t repC_f put_eq putC_t putC_f mem_nil mem_cons memC_t memC_f idx_nil idx_cons idxC_t idxC_f reach_nil reachP_cons reachQ_t reachQ_f ptrB_dead renB_dead ins_eq
attribute [local simp] n80_1s n80_3s n80_6s n80_10s n80_13s n80_14s n80_12s n80_18s n80_20s n80_22s n80_23s n80_21s n80_19s n80_17s n80_16s n80_24s n80_15s n80_11s n80_9s n80_8s n80_8g n80_7s n80_5s n80_26s n80_27s n80_25s n80_4s n80_2s n80_0s Try.f80
section
variable (off n c : Nat) {cs : List Value} {own : Bool} {l : Nat → Int × Int}
def GetOK (nx : Nat → Nat → Bool) (HH : List (Nat × Nat) → List (Nat × Nat) → List Blk) (n k : Nat) (eb : List (Nat × Nat)) : Prop := ∀ es M, InvR nx n es → M < 2 ^ n → cntU n M = k →
  ∃ es' ws, InvR nx n es' ∧ ((ws = [] ∧ es' = es) ∨ ws = [(1, fmB es')]) ∧ LL.run 60 [pp 0, wv M] (HH es eb) = some ⟨iv (cR nx n k M : Nat), [], ws⟩
theorem l80 (hc : SpC cs off n l) (hn : n ≤ 12) (eb : List (Nat × Nat)) (k : Nat) (hget : GetOK (nxB l n) (HR0 off n c cs own) n k eb) (M : Nat) (hM : M < 2 ^ n) (hk : cntU n M = k + 1) :
    ∀ (q j a : Nat) (es : List (Nat × Nat)) (wr : List Nat), j + q = n → InvR (nxB l n) n es → (wr = [] ∨ wr = [6]) → a + q * n ^ k ≤ 1000000000000000 →
    ∃ es' wr', InvR (nxB l n) n es' ∧ ((wr' = wr ∧ es' = es) ∨ wr' = [6]) ∧
      lpB Try.prog LL ⟨80, 35, 9, none⟩ n80_8 n80_9 ⟨[(0, wv M), (1, pp 0), (2, pp 2), (3, pp 3), (6, iv a), (9, iv n), (10, iv j)], HC0 off n c cs own es eb, wr⟩ =
      some (.exit 0, ⟨[(6, iv (cS (cF (nxB l n) n k M) q j a : Nat))], HC0 off n c cs own es' eb, wr'⟩) := by
  have hM32 : M < 2 ^ 32 := Nat.lt_of_lt_of_le hM (Nat.pow_le_pow_right (by decide) (by omega))
  intro q
  induction q with
  | zero =>
    intro j a es wr hj hi hw hb
    obtain rfl : j = n := by omega
    refine ⟨es, wr, hi, .inl ⟨rfl, rfl⟩, ?_⟩
    simp only [cS]
    rw [lpB_eq]
    rcases hw with rfl | rfl
    · simp (maxSteps := 1000000) (disch := first | omega | decide | assumption | simp [scal]) [loadA_eq ia_78, lenA_sl lk_78, loadA_eq ia_79, loadA_eq ia_85, o_fieldAddr fa_90_1 (by decide), loadA_eq ia_88, want_some q80_20g4, fm_ptr, fm_ren, ptrV_map, renV_map]
    · simp (maxSteps := 1000000) (disch := first | omega | decide | assumption | simp [scal]) [loadA_eq ia_78, lenA_sl lk_78, loadA_eq ia_79, loadA_eq ia_85, o_fieldAddr fa_90_1 (by decide), loadA_eq ia_88, want_some q80_20g4, fm_ptr, fm_ren, ptrV_map, renV_map]
  | succ q ih =>
    intro j a es wr hj hi hw hb
    have e0 : j < n := by omega
    have e1 : (j : Int) < n := by omega
    have a1 := fun b0 bx => k53 1 off n c (h := b0 :: .cells cs 2 true own :: bx) rfl hc (by omega) M j hM32 e0
    have a2 := k54 M j hM32 (by omega)
    have a3 := k78 M j
    rw [Nat.add_mul] at hb
    cases h : nxB l n M j
    · rw [h] at a1
      have hf : cF (nxB l n) n k M j = 0 := by simp only [cF, h, cond_false]
      obtain ⟨es', wr', i1, i2, i3⟩ := ih (j + 1) (a + 0) es wr (by omega) hi hw (by omega)
      refine ⟨es', wr', i1, i2, ?_⟩
      simp only [cS, hf]
      simp only [cast1, Nat.add_zero] at i3 ⊢
      generalize cS (cF (nxB l n) n k M) q (j + 1) a = Z at *
      rw [lpB_eq]
      clear ih hget
      rcases hw with rfl | rfl
      · simp (maxSteps := 1000000) (disch := first | omega | decide | assumption | simp [scal]) [loadA_eq ia_78, lenA_sl lk_78, loadA_eq ia_79, loadA_eq ia_85, o_fieldAddr fa_90_1 (by decide), loadA_eq ia_88, want_some q80_20g4, e0, e1, a1, fm_ptr, fm_ren, ptrV_map, renV_map, i3]
      · simp (maxSteps := 1000000) (disch := first | omega | decide | assumption | simp [scal]) [loadA_eq ia_78, lenA_sl lk_78, loadA_eq ia_79, loadA_eq ia_85, o_fieldAddr fa_90_1 (by decide), loadA_eq ia_88, want_some q80_20g4, e0, e1, a1, fm_ptr, fm_ren, ptrV_map, renV_map, i3]
    · rw [h] at a1
      have hb0 : M.testBit j = false := by
        unfold nxB at h
        simp only [Bool.and_eq_true, Bool.not_eq_true'] at h
        exact h.1
      have hcn := cntU_lt hb0 n e0
      have h2 : M ||| 2 ^ j < 2 ^ n := Nat.or_lt_two_pow hM (Nat.pow_lt_pow_right (by decide) e0)
      obtain ⟨es1, ws, g1, g2, g3⟩ := hget es (M ||| 2 ^ j) hi h2 (by omega)
      obtain ⟨wr1, g4, g5⟩ := callG0 off n c cs own g3 g2
      have hf : cF (nxB l n) n k M j = cR (nxB l n) n k (M ||| 2 ^ j) := by simp only [cF, h, cond_true]
      have hv : cR (nxB l n) n k (M ||| 2 ^ j) ≤ n ^ k := cR_le _ _
      simp only [cS, hf]
      generalize cR (nxB l n) n k (M ||| 2 ^ j) = v at *
      generalize M ||| 2 ^ j = M2 at *
      clear g3 hf h2 hcn
      have hwrap : IntKind.i64.wrap ((a : Int) + (v : Int)) = ((a + v : Nat) : Int) := by rw [wrap_i64_id (by omega) (by omega)]; rfl
      have go : ∀ wr2, (wr2 = [] ∨ wr2 = [6]) → ((wr2 = wr ∧ es1 = es) ∨ wr2 = [6]) → _ := fun wr2 x y => ih (j + 1) (a + v) es1 wr2 (by omega) g1 x (by omega)
      clear ih hget
      rcases g4 with ⟨rfl, rfl⟩ | rfl
      · obtain ⟨es', wr', i1, i2, i3⟩ := go wr hw (.inl ⟨rfl, rfl⟩)
        refine ⟨es', wr', i1, i2, ?_⟩
        simp only [cast1] at i3 ⊢
        generalize cS (cF (nxB l n) n k M) q (j + 1) (a + v) = Z at *
        generalize ((a + v : Nat) : Int) = av at *
        rw [lpB_eq]
        rcases hw with rfl | rfl
        · simp (maxSteps := 1000000) (disch := first | omega | decide | assumption | simp [scal]) [loadA_eq ia_78, lenA_sl lk_78, loadA_eq ia_79, loadA_eq ia_85, o_fieldAddr fa_90_1 (by decide), loadA_eq ia_88, want_some q80_20g4, e0, e1, a1, a2, a3, g5, hwrap, callV_f, callV_fc, fm_ptr, fm_ren, ptrV_map, renV_map, i3]
        · simp (maxSteps := 1000000) (disch := first | omega | decide | assumption | simp [scal]) [loadA_eq ia_78, lenA_sl lk_78, loadA_eq ia_79, loadA_eq ia_85, o_fieldAddr fa_90_1 (by decide), loadA_eq ia_88, want_some q80_20g4, e0, e1, a1, a2, a3, g5, hwrap, callV_f, callV_fc, fm_ptr, fm_ren, ptrV_map, renV_map, i3]
      · obtain ⟨es', wr', i1, i2, i3⟩ := go [6] (.inr rfl) (.inr rfl)
        refine ⟨es', wr', i1, .inr (by rcases i2 with ⟨h1, _⟩ | h1 <;> exact h1), ?_⟩
        simp only [cast1] at i3 ⊢
        generalize cS (cF (nxB l n) n k M) q (j + 1) (a + v) = Z at *
        generalize ((a + v : Nat) : Int) = av at *
        rw [lpB_eq]
        rcases hw with rfl | rfl
        · simp (maxSteps := 1000000) (disch := first | omega | decide | assumption | simp [scal]) [loadA_eq ia_78, lenA_sl lk_78, loadA_eq ia_79, loadA_eq ia_85, o_fieldAddr fa_90_1 (by decide), loadA_eq ia_88, want_some q80_20g4, e0, e1, a1, a2, a3, g5, hwrap, callV_f, callV_fc, fm_ptr, fm_ren, ptrV_map, renV_map, i3]
        · simp (maxSteps := 1000000) (disch := first | omega | decide | assumption | simp [scal]) [loadA_eq ia_78, lenA_sl lk_78, loadA_eq ia_79, loadA_eq ia_85, o_fieldAddr fa_90_1 (by decide), loadA_eq ia_88, want_some q80_20g4, e0, e1, a1, a2, a3, g5, hwrap, callV_f, callV_fc, fm_ptr, fm_ren, ptrV_map, renV_map, i3]
end
end Go.Proofs.Ytfccmddkblbeoaa.rk
namespace Go.Proofs.Ytfccmddkblbeoaa.rk
open Go.GE
set_option linter.unusedVariables false
set_option linter.unusedSimpArgs false
set_option linter.unusedSectionVars false
set_option maxRecDepth 100000
set_option maxHeartbeats 4000000
attribute [local simp] runOps_nil runOps_cons runOpsF_nil runOpsF_cons fstS_some fstF_some opStep_eq want_none oStep_true oStep_false fin_pure fin_read fin_alloc fin_write storeB wrN cellV addWr o_move o_assign o_pick o_alloc o_box o_load o_store o_nilCheck o_bin o_un o_extract o_callV o_callB o_callI callV_f callV_y callV_fc o_makeFunc partsA Instr.fill builtin_len builtin_max2 bin_add bin_sub bin_mul bin_quo bin_rem bin_lss bin_leq bin_gtr bin_geq bin_eql bin_neq un_neg un_not bin_shr bin_shl wrap_u64_id opd opds optAll putO nbeq nblt constOk isC ops sub cl cr co bodyOf thenS_normal thenS_ret thenS_exit thenS_goto afterN_normal afterN_ret afterN_exit afterN_goto condS_true condS_false blockS_normal blockS_ret blockS_exit blockS_goto headS normS normK_eq fixS_nil fixS_cons fix1 fixV emptyB keepO_nil keepO_cons roundC_normal roundC_exit roundC_ret roundC_goto sweep_eq sweepD rnm pickR pickW rootsB ptrT renT ptrFn renFn ptrB_flat ptrB_non renB_flat renB_non plainS_some drawS_some fpsOk disj unord range' dropTo enumT undef wrap_i64_id Value.cells mkCells ptrTo scal cellsAt rdN endS_ret resultsA Option.bind_some tupV finish reachN dep ptrL_eq ptrL renL_eq renL ptrV_bool ptrV_int ptrV_string ptrV_nilFunc ptrV_nilIface ptrV_nilPtr ptrV_ptr ptrV_nilSl ptrV_sl ptrV_iface ptrV_agg ptrV_tuple ptrV_func renV_bool renV_int renV_string renV_nilFunc renV_nilIface renV_nilPtr renV_ptr renV_nilSl renV_sl renV_iface renV_agg renV_tuple renV_func gotoS_goto gotoS_normal gotoS_exit gotoS_ret skip_seq sliceE bnd bndHi intOf optOpd keepT_nil keepT_cons keepC_t keepC_f lk_nil lk_cons lkC_t lkC_f has_nil has_cons hasC_t hasC_f rep_nil rep_cons repC_t repC_f put_eq putC_t putC_f mem_nil mem_cons memC_t memC_f idx_nil idx_cons idxC_t idxC_f reach_nil reachP_cons reachQ_t reachQ_f ptrB_dead renB_dead ins_eq
attribute [local simp] n80_1s n80_3s n80_6s n80_10s n80_13s n80_14s n80_12s n80_18s n80_20s n80_22s n80_23s n80_21s n80_19s n80_17s n80_16s n80_24s n80_15s n80_11s n80_9s n80_8s n80_8g n80_7s n80_5s n80_26s n80_27s n80_25s n80_4s n80_2s n80_0s Try.f80 n60_1s n60_3s n60_6s n60_9s n60_10s n60_8s n60_11s n60_7s n60_5s n60_13s n60_14s n60_12s n60_4s n60_2s n60_0s Try.f60
section
variable (off n c : Nat) {cs : List Value} {own : Bool} {l : Nat → Int × Int}
theorem rchR (es eb : List (Nat × Nat)) : reach (HR0 off n c cs own es eb) 0 reachN [2, 4, 5] [] = [2, 3, 4, 5, 6, 0, 1, 7, 8] := by
  simp only [reachP_cons, nblt, nbeq, mem_nil, mem_cons, memC_t, memC_f, reachQ_f, reachQ_t, Bool.or_false, Bool.or_true, Bool.false_or, Bool.true_or, decide_false, decide_true, Nat.not_lt_zero, rootsB, List.getElem?_cons_succ, List.getElem?_cons_zero, ptrB_non, ptrB_flat, ptrL_eq, ptrL, ptrV_bool, ptrV_int, ptrV_string, ptrV_nilFunc, ptrV_nilIface, ptrV_nilPtr, ptrV_nilSl, ptrV_iface, ptrV_agg, ptrV_tuple, ptrV_func, ptrV_ptr, ptrV_sl, dep, ptrFn, List.nil_append, List.cons_append, List.append_nil, reach_nil, reachN, Nat.reduceEqDiff, Nat.reduceAdd, Nat.reduceSub, reduceCtorEq, Nat.reduceLT, Nat.lt_irrefl, List.flatMap_cons, List.flatMap_nil, optAll, renL_eq, renL, renB_flat, renB_non, renV_bool, renV_int, renV_string, renV_nilFunc, renV_nilIface, renV_nilPtr, renV_ptr, renV_nilSl, renV_sl, renV_iface, renV_agg, renV_tuple, renV_func, renFn, idx_nil, idx_cons, idxC_t, idxC_f, Option.map_some, Option.map_none, fm_ptr, ptrV_map]
theorem pickR0 (es eb : List (Nat × Nat)) : optAll (pickB (HR0 off n c cs own es eb) (idx [2, 3, 4, 5, 6, 0, 1, 7, 8])) [2, 3, 4, 5, 6, 0, 1, 7, 8] = some (HC0 off n c cs own es eb) := by
  simp (maxSteps := 1000000) (disch := first | omega | decide | assumption | simp [scal]) [pickB, renV_map, fm_ren]
theorem c80 (hc : SpC cs off n l) (hn : n ≤ 12) (eb : List (Nat × Nat)) (k : Nat) (hget : GetOK (nxB l n) (HR0 off n c cs own) n k eb) (M : Nat) (hM : M < 2 ^ n) (hk : cntU n M = k + 1) (es : List (Nat × Nat)) (hi : InvR (nxB l n) n es) :
    ∃ es' wr, InvR (nxB l n) n es' ∧ ((wr = [] ∧ es' = es) ∨ wr = [1]) ∧ callH LL 80 [wv M, pp 2, pp 4, pp 5] (HR0 off n c cs own es eb) = some ⟨iv (cR (nxB l n) n (k + 1) M : Nat), HR0 off n c cs own es' eb, [2, 3, 4, 5, 6, 0, 1, 7, 8], wr⟩ := by
  have hkn : k + 1 ≤ n := by have := cntU_le (n := n) (M := M); omega
  have hp := pow_le12 hn (show k ≤ 12 by omega)
  have hnp : n * n ^ k ≤ 12 * 8916100448256 := Nat.mul_le_mul hn hp
  obtain ⟨es', wr', i1, i2, i3⟩ := l80 off n c (own := own) hc hn eb k hget M hM hk n 0 0 es [] (by omega) hi (.inl rfl) (by omega)
  have hrun : LL.run 80 [wv M, pp 0, pp 2, pp 3] (HC0 off n c cs own es eb) = some ⟨iv (cR (nxB l n) n (k + 1) M : Nat), [], wr'.map fun b => (b, fmB es')⟩ := by
    refine go (by decide) ?_
    rw [run80 _ _ _ (by simp)]
    have hR : cR (nxB l n) n (k + 1) M = cS (cF (nxB l n) n k M) n 0 0 := rfl
    rw [hR]
    generalize cS (cF (nxB l n) n k M) n 0 0 = Z at *
    clear hget
    simp only [Int.natCast_zero] at i3
    rcases i2 with ⟨rfl, rfl⟩ | rfl
    · simp (maxSteps := 1000000) (disch := first | omega | decide | assumption | simp [scal]) [loadA_eq ia_78, lenA_sl lk_78, loadA_eq ia_79, loadA_eq ia_85, o_fieldAddr fa_90_1 (by decide), loadA_eq ia_88, want_some q80_20g4, i3, fm_ptr, fm_ren, ptrV_map, renV_map]
    · simp (maxSteps := 1000000) (disch := first | omega | decide | assumption | simp [scal]) [loadA_eq ia_78, lenA_sl lk_78, loadA_eq ia_79, loadA_eq ia_85, o_fieldAddr fa_90_1 (by decide), loadA_eq ia_88, want_some q80_20g4, i3, fm_ptr, fm_ren, ptrV_map, renV_map]
  rcases i2 with ⟨rfl, rfl⟩ | rfl
  · exact ⟨es', [], i1, .inl ⟨rfl, rfl⟩, callH_lit (by intro _; first | trivial | rfl) rfl (rchR ..) rfl (pickR0 ..) hrun (by simp [mergeB, renV_int, dep, optAll]) (by simp)⟩
  · exact ⟨es', [1], i1, .inr rfl, callH_lit (by intro _; first | trivial | rfl) rfl (rchR ..) rfl (pickR0 ..) hrun (by simp [mergeB, renV_int, dep, optAll, fm_ren]) (by simp)⟩
theorem get_ok (hc : SpC cs off n l) (hn : n ≤ 12) (eb : List (Nat × Nat)) : ∀ k, GetOK (nxB l n) (HR0 off n c cs own) n k eb := by
  have hit : ∀ (es : List (Nat × Nat)) (M i v : Nat), M < 2 ^ n → findA (wv M) (mE es) 0 = some (some (i, iv v)) → LL.run 60 [pp 0, wv M] (HR0 off n c cs own es eb) = some ⟨iv v, [], []⟩ := by
    intro es M i v hM hf
    have fL : lookM (HR0 off n c cs own es eb) 1 M = some ⟨.tuple #[iv v, .bool true], HR0 off n c cs own es eb, [1], []⟩ := look_hit rfl hf
    refine go (by decide) ?_
    rw [run60 _ _ _ (by simp)]
    simp (maxSteps := 1000000) (disch := first | omega | decide | assumption | simp [scal]) [o_fieldAddr fa_110_0 (by decide), loadA_eq ia_108, o_fieldAddr fa_110_1 (by decide), loadA_eq ia_91, o_look, look108, fL, fm_ptr, fm_ren, ptrV_map, renV_map]
  intro k
  induction k with
  | zero =>
    intro es M hi hM hk
    rcases findA_mE (M := M) es 0 with ⟨i, v, h1, h2⟩ | ⟨_, h2⟩
    · have hv := (hi.1 (M, v) (List.mem_of_getElem? h2)).2
      simp only [hk] at hv
      rw [Nat.zero_add] at h1
      refine ⟨es, [], hi, .inl ⟨rfl, rfl⟩, ?_⟩
      rw [← hv]
      exact hit es M i v hM h1
    · obtain ⟨p, hp, he⟩ := hi.2
      exact absurd (he.trans (all_bits hM hk).symm) (h2 p hp)
  | succ k ih =>
    intro es M hi hM hk
    rcases findA_mE (M := M) es 0 with ⟨i, v, h1, h2⟩ | ⟨h1, h2⟩
    · have hv := (hi.1 (M, v) (List.mem_of_getElem? h2)).2
      simp only [hk] at hv
      rw [Nat.zero_add] at h1
      refine ⟨es, [], hi, .inl ⟨rfl, rfl⟩, ?_⟩
      rw [← hv]
      exact hit es M i v hM h1
    · obtain ⟨es', wr, i1, i2, i3⟩ := c80 off n c (own := own) hc hn eb k ih M hM hk es hi
      have hu := i1.upd hM
      rw [hk] at hu
      refine ⟨_, [(1, fmB (updE es' M (cR (nxB l n) n (k + 1) M)))], hu, .inr rfl, ?_⟩
      have fL : lookM (HR0 off n c cs own es eb) 1 M = some ⟨.tuple #[iv 0, .bool false], HR0 off n c cs own es eb, [1], []⟩ := look_miss rfl h1
      generalize cR (nxB l n) n (k + 1) M = Z at *
      have fU : updM (HR0 off n c cs own es' eb) 1 M (iv Z) = some ⟨undef, HR0 off n c cs own (updE es' M Z) eb, [1], [1]⟩ := upd_eq rfl
      clear ih hu hit
      refine go (by decide) ?_
      rw [run60 _ _ _ (by simp)]
      rcases i2 with ⟨rfl, rfl⟩ | rfl
      · simp (maxSteps := 1000000) (disch := first | omega | decide | assumption | simp [scal]) [o_fieldAddr fa_110_0 (by decide), loadA_eq ia_108, o_fieldAddr fa_110_1 (by decide), loadA_eq ia_91, o_look, look108, fL, o_mapU, upd108, fU, i3, callV_fc, fm_ptr, fm_ren, ptrV_map, renV_map]
      · simp (maxSteps := 1000000) (disch := first | omega | decide | assumption | simp [scal]) [o_fieldAddr fa_110_0 (by decide), loadA_eq ia_108, o_fieldAddr fa_110_1 (by decide), loadA_eq ia_91, o_look, look108, fL, o_mapU, upd108, fU, i3, callV_fc, fm_ptr, fm_ren, ptrV_map, renV_map]
end
end Go.Proofs.Ytfccmddkblbeoaa.rk
namespace Go.Proofs.Ytfccmddkblbeoaa.rk
open Go.GE
set_option linter.unusedVariables false
set_option linter.unusedSimpArgs false
set_option linter.unusedSectionVars false
set_option maxRecDepth 100000
set_option maxHeartbeats 4000000
attribute [local simp] runOps_nil runOps_cons runOpsF_nil runOpsF_cons fstS_some fstF_some opStep_eq want_none oStep_true oStep_false fin_pure fin_read fin_alloc fin_write storeB wrN cellV addWr o_move o_assign o_pick o_alloc o_box o_load o_store o_nilCheck o_bin o_un o_extract o_callV o_callB o_callI callV_f callV_y callV_fc o_makeFunc partsA Instr.fill builtin_len builtin_max2 bin_add bin_sub bin_mul bin_quo bin_rem bin_lss bin_leq bin_gtr bin_geq bin_eql bin_neq un_neg un_not bin_shr bin_shl wrap_u64_id opd opds optAll putO nbeq nblt constOk isC ops sub cl cr co bodyOf thenS_normal thenS_ret thenS_exit thenS_goto afterN_normal afterN_ret afterN_exit afterN_goto condS_true condS_false blockS_normal blockS_ret blockS_exit blockS_goto headS normS normK_eq fixS_nil fixS_cons fix1 fixV emptyB keepO_nil keepO_cons roundC_normal roundC_exit roundC_ret roundC_goto sweep_eq sweepD rnm pickR pickW rootsB ptrT renT ptrFn renFn ptrB_flat ptrB_non renB_flat renB_non plainS_some drawS_some fpsOk disj unord range' dropTo enumT undef wrap_i64_id Value.cells mkCells ptrTo scal cellsAt rdN endS_ret resultsA Option.bind_some tupV finish reachN dep ptrL_eq ptrL renL_eq renL ptrV_bool ptrV_int ptrV_string ptrV_nilFunc ptrV_nilIface ptrV_nilPtr ptrV_ptr ptrV_nilSl ptrV_sl ptrV_iface ptrV_agg ptrV_tuple ptrV_func renV_bool renV_int renV_string renV_nilFunc renV_nilIface renV_nilPtr renV_ptr renV_nilSl renV_sl renV_iface renV_agg renV_tuple renV_func gotoS_goto gotoS_normal gotoS_exit gotoS_ret skip_seq sliceE bnd bndHi intOf optOpd keepT_nil keepT_cons keepC_t keepC_f lk_nil lk_cons lkC_t lkC_f has_nil has_cons hasC_t hasC_f rep_nil rep_cons repC_t repC_f put_eq putC_t putC_f mem_nil mem_cons memC_t memC_f idx_nil idx_cons idxC_t idxC_f reach_nil reachP_cons reachQ_t reachQ_f ptrB_dead renB_dead ins_eq
attribute [local simp] n69_1s n69_3s n69_5s n69_7s n69_9s n69_11s n69_12s n69_10s n69_8s n69_6s n69_4s n69_2s n69_0s Try.f69
section
variable (off n c : Nat) {cs : List Value} {own : Bool} {l : Nat → Int × Int}
/-- a counter's blocks: the month's cells are block z, the first of them is block d -/
abbrev NW (z d : Nat) (es eb : List (Nat × Nat)) : List Blk := [.cells [sl z off n c, pp (d + 1), pp (d + 6)] 1 false true, .cells [.map (some (d + 2)), .func (.func 80) #[] #[pp (d + 3), pp (d + 4), pp (d + 5)]] 1 false true, fmB es,
  .cells [sl z off n c] 1 false true, mayB, .cells [pp d] 1 false true, .cells [.map (some (d + 7)), .func (.func 81) #[] #[pp (d + 3), pp (d + 5)]] 1 false true, fmB eb]
theorem k69 (hn : n ≤ 30) : callH LL 69 [sl 0 off n c, .func (.func 78) #[] #[]] [.cells cs 2 true own] = some ⟨pp 1, .cells cs 2 true own :: NW off n c 0 1 [(2 ^ n - 1, 1)] [(0, 1)], [0], []⟩ := by
  have f3 := shl_poww (J := n) (by omega)
  have p1 : 2 ^ n < 2 ^ 32 := Nat.pow_lt_pow_right (by decide) (by omega)
  have p0 : 0 < 2 ^ n := Nat.two_pow_pos n
  have f4 : IntKind.u32.wrap (((2 ^ n : Nat) : Int) - 1) = ((2 ^ n - 1 : Nat) : Int) := by
    rw [show ((2 ^ n : Nat) : Int) - 1 = ((2 ^ n - 1 : Nat) : Int) by omega]
    exact wrap_u32 (by omega)
  have u1 := fun b0 b1 b2 b3 b4 => upd_eq (h := [b0, b1, b2, b3, b4, fmB []]) (b := 5) (M := 2 ^ n - 1) (v := 1) (es := []) rfl
  have u2 := fun b0 b1 b2 b3 b4 b5 b6 => upd_eq (h := [b0, b1, b2, b3, b4, b5, b6, fmB []]) (b := 7) (M := 0) (v := 1) (es := []) rfl
  have hrun : LL.run 69 [sl 0 off n c, .func (.func 78) #[] #[]] [.cells cs 2 true own] = some ⟨pp 1, NW off n c 0 1 [(2 ^ n - 1, 1)] [(0, 1)], []⟩ := by
    refine go (by decide) ?_
    have e1 : updE [] (2 ^ n - 1) 1 = [(2 ^ n - 1, 1)] := rfl
    have e2 : updE [] 0 1 = [(0, 1)] := rfl
    rw [e1] at u1
    rw [e2] at u2
    generalize hE : fmB [(2 ^ n - 1, 1)] = E at *
    generalize hB : fmB [(0, 1)] = B at *
    have q1 : ptrB E = [] := by rw [← hE]; exact fm_ptr
    have q2 : ptrB B = [] := by rw [← hB]; exact fm_ptr
    have q3 : ∀ f, renB f E = some E := by intro f; rw [← hE]; exact fm_ren
    have q4 : ∀ f, renB f B = some B := by intro f; rw [← hB]; exact fm_ren

    have m0 : Blk.map [] = fmB [] := rfl
    have z0 : ∀ h b v, updX Try.prog 108 h (some (.map (some b))) (some (.int .u32 0)) (some v) = updM h b 0 v := fun h b v => upd108 (M := 0)
    generalize 2 ^ n - 1 = A at *
    generalize ((2 ^ n : Nat) : Int) = A2 at *
    simp only [List.set_cons_succ, List.set_cons_zero] at u1 u2
    simp only [Int.natCast_zero, Int.natCast_one] at u1 u2
    rw [run69 _ _ _ (by simp)]
    simp (maxSteps := 1000000) (disch := first | omega | decide | assumption | simp [scal]) [loadA_eq ia_78, za_90, o_build za_90 pl_90, za_85, sz_85, lenA_sl lk_78, loadA_eq ia_85, za_110, o_build za_110 pl_110, o_fieldAddr fa_90_1 (by decide), sz_88, o_fieldAddr fa_90_2 (by decide), loadA_eq ia_88, f3, f4, o_insert, o_makeMap, upd108, z0, m0, u1, u2, q1, q2, q3, q4, fm_ptr, ptrV_map, renV_map]
    exact ⟨hE.symm, hB.symm⟩
  exact callH_lit (by intro _; first | trivial | rfl) (roots := [0]) rfl (ρ := [0]) (by simp only [reachP_cons, nblt, nbeq, mem_nil, mem_cons, memC_t, memC_f, reachQ_f, reachQ_t, Bool.or_false, Bool.or_true, Bool.false_or, Bool.true_or, decide_false, decide_true, Nat.not_lt_zero, rootsB, List.getElem?_cons_succ, List.getElem?_cons_zero, ptrB_non, ptrB_flat, ptrL_eq, ptrL, ptrV_bool, ptrV_int, ptrV_string, ptrV_nilFunc, ptrV_nilIface, ptrV_nilPtr, ptrV_nilSl, ptrV_iface, ptrV_agg, ptrV_tuple, ptrV_func, ptrV_ptr, ptrV_sl, dep, ptrFn, List.nil_append, List.cons_append, List.append_nil, reach_nil, reachN, Nat.reduceEqDiff, Nat.reduceAdd, Nat.reduceSub, reduceCtorEq, Nat.reduceLT, Nat.lt_irrefl, List.flatMap_cons, List.flatMap_nil, optAll, renL_eq, renL, renB_flat, renB_non, renV_bool, renV_int, renV_string, renV_nilFunc, renV_nilIface, renV_nilPtr, renV_ptr, renV_nilSl, renV_sl, renV_iface, renV_agg, renV_tuple, renV_func, renFn, idx_nil, idx_cons, idxC_t, idxC_f, Option.map_some, Option.map_none]) rfl rfl hrun (by simp [mergeB, renV_ptr, dep, optAll, renB_non, renL, renV_sl, renV_map, renV_func, renFn, fm_ren, renL_eq]) (by simp)
end
end Go.Proofs.Ytfccmddkblbeoaa.rk
namespace Go.Proofs.Ytfccmddkblbeoaa.rk
open Go.GE
set_option linter.unusedVariables false
set_option linter.unusedSimpArgs false
set_option linter.unusedSectionVars false
set_option maxRecDepth 100000
set_option maxHeartbeats 4000000
attribute [local simp] runOps_nil runOps_cons runOpsF_nil runOpsF_cons fstS_some fstF_some opStep_eq want_none oStep_true oStep_false fin_pure fin_read fin_alloc fin_write storeB wrN cellV addWr o_move o_assign o_pick o_alloc o_box o_load o_store o_nilCheck o_bin o_un o_extract o_callV o_callB o_callI callV_f callV_y callV_fc o_makeFunc partsA Instr.fill builtin_len builtin_max2 bin_add bin_sub bin_mul bin_quo bin_rem bin_lss bin_leq bin_gtr bin_geq bin_eql bin_neq un_neg un_not bin_shr bin_shl wrap_u64_id opd opds optAll putO nbeq nblt constOk isC ops sub cl cr co bodyOf thenS_normal thenS_ret thenS_exit thenS_goto afterN_normal afterN_ret afterN_exit afterN_goto condS_true condS_false blockS_normal blockS_ret blockS_exit blockS_goto headS normS normK_eq fixS_nil fixS_cons fix1 fixV emptyB keepO_nil keepO_cons roundC_normal roundC_exit roundC_ret roundC_goto sweep_eq sweepD rnm pickR pickW rootsB ptrT renT ptrFn renFn ptrB_flat ptrB_non renB_flat renB_non plainS_some drawS_some fpsOk disj unord range' dropTo enumT undef wrap_i64_id Value.cells mkCells ptrTo scal cellsAt rdN endS_ret resultsA Option.bind_some tupV finish reachN dep ptrL_eq ptrL renL_eq renL ptrV_bool ptrV_int ptrV_string ptrV_nilFunc ptrV_nilIface ptrV_nilPtr ptrV_ptr ptrV_nilSl ptrV_sl ptrV_iface ptrV_agg ptrV_tuple ptrV_func renV_bool renV_int renV_string renV_nilFunc renV_nilIface renV_nilPtr renV_ptr renV_nilSl renV_sl renV_iface renV_agg renV_tuple renV_func gotoS_goto gotoS_normal gotoS_exit gotoS_ret skip_seq sliceE bnd bndHi intOf optOpd keepT_nil keepT_cons keepC_t keepC_f lk_nil lk_cons lkC_t lkC_f has_nil has_cons hasC_t hasC_f rep_nil rep_cons repC_t repC_f put_eq putC_t putC_f mem_nil mem_cons memC_t memC_f idx_nil idx_cons idxC_t idxC_f reach_nil reachP_cons reachQ_t reachQ_f ptrB_dead renB_dead ins_eq
attribute [local simp] n59_1s n59_3s n59_7s n59_10s n59_11s n59_9s n59_13s n59_16s n59_17s n59_15s n59_18s n59_14s n59_12s n59_8s n59_6s n59_5s n59_20s n59_21s n59_19s n59_4s n59_2s n59_0s Try.f59 n23_1s n23_3s n23_6s n23_9s n23_10s n23_8s n23_11s n23_7s n23_5s n23_13s n23_14s n23_12s n23_4s n23_2s n23_0s Try.f23
def cntE (l : Nat → Int × Int) (n : Nat) : Int := if chkS l n = 0 then (if 12 < n then 16 else 0) else chkS l n
def cntV (l : Nat → Int × Int) (n : Nat) : Nat := if cntE l n = 0 then cR (nxB l n) n n 0 else 0
theorem cntE_ok {l : Nat → Int × Int} {n : Nat} (h : cntE l n = 0) : chkS l n = 0 ∧ n ≤ 12 ∧ 1 ≤ n := by
  unfold cntE at h
  split at h
  · rename_i h1
    have := chk_ok h1
    split at h
    · omega
    · exact ⟨h1, by omega, by omega⟩
  · rename_i h1; exact absurd h h1
theorem inv0 {nx : Nat → Nat → Bool} {n : Nat} : InvR nx n [(2 ^ n - 1, 1)] := by
  have := Nat.two_pow_pos n
  refine ⟨fun p hp => ?_, (2 ^ n - 1, 1), by simp, rfl⟩
  simp only [List.mem_singleton] at hp
  subst hp
  refine ⟨by simp only; omega, ?_⟩
  simp only [cntU_all n (Nat.le_refl _), cR]
section
variable (off n c : Nat) {cs : List Value} {own : Bool} {l : Nat → Int × Int}
theorem r59 (hc : SpC cs off n l) (hn : n ≤ 60) : LL.run 59 [sl 0 off n c] [.cells cs 2 true own] = if cntE l n = 0 then some ⟨.tuple #[pp 1, iv 0], NW off n c 0 1 [(2 ^ n - 1, 1)] [(0, 1)], []⟩ else some ⟨.tuple #[.pointer none, iv (cntE l n)], [], []⟩ := by
  have a := k45 0 off n c (h := [.cells cs 2 true own]) rfl hc hn
  by_cases h1 : chkS l n = 0
  · by_cases h2 : 12 < n
    · have e : cntE l n = 16 := by unfold cntE; rw [if_pos h1, if_pos h2]
      rw [if_neg (by omega), e]
      have h2' : (12 : Int) < n := by omega
      rw [h1] at a
      refine go (by decide) ?_
      rw [run59 _ _ _ (by simp)]
      simp (maxSteps := 1000000) (disch := first | omega | decide | assumption | simp [scal]) [lenA_sl lk_22, a, h2']
    · have e : cntE l n = 0 := by unfold cntE; rw [if_pos h1, if_neg h2]
      rw [if_pos e]
      have h2' : ¬ (12 : Int) < n := by omega
      have k := k69 off n c (cs := cs) (own := own) (chk_ok h1).2
      rw [h1] at a
      refine go (by decide) ?_
      rw [run59 _ _ _ (by simp)]
      simp (maxSteps := 1000000) (disch := first | omega | decide | assumption | simp [scal]) [lenA_sl lk_22, a, h2', k, fm_ptr, fm_ren, ptrV_map, renV_map]
  · have e : cntE l n = chkS l n := by unfold cntE; rw [if_neg h1]
    rw [e, if_neg h1]
    refine go (by decide) ?_
    rw [run59 _ _ _ (by simp)]
    simp (maxSteps := 1000000) (disch := first | omega | decide | assumption | simp [scal]) [lenA_sl lk_22, a, h1]
/-- the same at a place where only the month lies .. -/
theorem k59 (hc : SpC cs off n l) (hn : n ≤ 60) : callH LL 59 [sl 0 off n c] [.cells cs 2 true own] = if cntE l n = 0 then some ⟨.tuple #[pp 1, iv 0], .cells cs 2 true own :: NW off n c 0 1 [(2 ^ n - 1, 1)] [(0, 1)], [0], []⟩ else some ⟨.tuple #[.pointer none, iv (cntE l n)], [.cells cs 2 true own], [0], []⟩ := by
  have h := r59 off n c (own := own) hc hn
  by_cases h1 : cntE l n = 0
  · rw [if_pos h1] at h ⊢
    exact callH_lit (by intro _; first | trivial | rfl) (roots := [0]) rfl (ρ := [0]) (by simp only [reachP_cons, nblt, nbeq, mem_nil, mem_cons, memC_t, memC_f, reachQ_f, reachQ_t, Bool.or_false, Bool.or_true, Bool.false_or, Bool.true_or, decide_false, decide_true, Nat.not_lt_zero, rootsB, List.getElem?_cons_succ, List.getElem?_cons_zero, ptrB_non, ptrB_flat, ptrL_eq, ptrL, ptrV_bool, ptrV_int, ptrV_string, ptrV_nilFunc, ptrV_nilIface, ptrV_nilPtr, ptrV_nilSl, ptrV_iface, ptrV_agg, ptrV_tuple, ptrV_func, ptrV_ptr, ptrV_sl, dep, ptrFn, List.nil_append, List.cons_append, List.append_nil, reach_nil, reachN, Nat.reduceEqDiff, Nat.reduceAdd, Nat.reduceSub, reduceCtorEq, Nat.reduceLT, Nat.lt_irrefl, List.flatMap_cons, List.flatMap_nil, optAll, renL_eq, renL, renB_flat, renB_non, renV_bool, renV_int, renV_string, renV_nilFunc, renV_nilIface, renV_nilPtr, renV_ptr, renV_nilSl, renV_sl, renV_iface, renV_agg, renV_tuple, renV_func, renFn, idx_nil, idx_cons, idxC_t, idxC_f, Option.map_some, Option.map_none]) rfl rfl h (by simp [mergeB, renV_ptr, renV_tuple, dep, optAll, renB_non, renL, renV_sl, renV_map, renV_func, renV_int, renFn, fm_ren, renL_eq]) (by simp)
  · rw [if_neg h1] at h ⊢
    exact callH_lit (by intro _; first | trivial | rfl) (roots := [0]) rfl (ρ := [0]) (by simp only [reachP_cons, nblt, nbeq, mem_nil, mem_cons, memC_t, memC_f, reachQ_f, reachQ_t, Bool.or_false, Bool.or_true, Bool.false_or, Bool.true_or, decide_false, decide_true, Nat.not_lt_zero, rootsB, List.getElem?_cons_succ, List.getElem?_cons_zero, ptrB_non, ptrB_flat, ptrL_eq, ptrL, ptrV_bool, ptrV_int, ptrV_string, ptrV_nilFunc, ptrV_nilIface, ptrV_nilPtr, ptrV_nilSl, ptrV_iface, ptrV_agg, ptrV_tuple, ptrV_func, ptrV_ptr, ptrV_sl, dep, ptrFn, List.nil_append, List.cons_append, List.append_nil, reach_nil, reachN, Nat.reduceEqDiff, Nat.reduceAdd, Nat.reduceSub, reduceCtorEq, Nat.reduceLT, Nat.lt_irrefl, List.flatMap_cons, List.flatMap_nil, optAll, renL_eq, renL, renB_flat, renB_non, renV_bool, renV_int, renV_string, renV_nilFunc, renV_nilIface, renV_nilPtr, renV_ptr, renV_nilSl, renV_sl, renV_iface, renV_agg, renV_tuple, renV_func, renFn, idx_nil, idx_cons, idxC_t, idxC_f, Option.map_some, Option.map_none]) rfl rfl h (by simp [mergeB, renV_nilPtr, renV_tuple, dep, optAll, renL, renV_int, renL_eq]) (by simp)
/-- .. and where something else lies, too -/
theorem k59' (hc : SpC cs off n l) (hn : n ≤ 60) (X : Blk) : callH LL 59 [sl 0 off n c] [.cells cs 2 true own, X] = if cntE l n = 0 then some ⟨.tuple #[pp 2, iv 0], .cells cs 2 true own :: X :: NW off n c 0 2 [(2 ^ n - 1, 1)] [(0, 1)], [0], []⟩ else some ⟨.tuple #[.pointer none, iv (cntE l n)], [.cells cs 2 true own, X], [0], []⟩ := by
  have h := r59 off n c (own := own) hc hn
  by_cases h1 : cntE l n = 0
  · rw [if_pos h1] at h ⊢
    exact callH_lit (by intro _; first | trivial | rfl) (roots := [0]) rfl (ρ := [0]) (by simp only [reachP_cons, nblt, nbeq, mem_nil, mem_cons, memC_t, memC_f, reachQ_f, reachQ_t, Bool.or_false, Bool.or_true, Bool.false_or, Bool.true_or, decide_false, decide_true, Nat.not_lt_zero, rootsB, List.getElem?_cons_succ, List.getElem?_cons_zero, ptrB_non, ptrB_flat, ptrL_eq, ptrL, ptrV_bool, ptrV_int, ptrV_string, ptrV_nilFunc, ptrV_nilIface, ptrV_nilPtr, ptrV_nilSl, ptrV_iface, ptrV_agg, ptrV_tuple, ptrV_func, ptrV_ptr, ptrV_sl, dep, ptrFn, List.nil_append, List.cons_append, List.append_nil, reach_nil, reachN, Nat.reduceEqDiff, Nat.reduceAdd, Nat.reduceSub, reduceCtorEq, Nat.reduceLT, Nat.lt_irrefl, List.flatMap_cons, List.flatMap_nil, optAll, renL_eq, renL, renB_flat, renB_non, renV_bool, renV_int, renV_string, renV_nilFunc, renV_nilIface, renV_nilPtr, renV_ptr, renV_nilSl, renV_sl, renV_iface, renV_agg, renV_tuple, renV_func, renFn, idx_nil, idx_cons, idxC_t, idxC_f, Option.map_some, Option.map_none]) rfl rfl h (by simp [mergeB, renV_ptr, renV_tuple, dep, optAll, renB_non, renL, renV_sl, renV_map, renV_func, renV_int, renFn, fm_ren, renL_eq]) (by simp)
  · rw [if_neg h1] at h ⊢
    exact callH_lit (by intro _; first | trivial | rfl) (roots := [0]) rfl (ρ := [0]) (by simp only [reachP_cons, nblt, nbeq, mem_nil, mem_cons, memC_t, memC_f, reachQ_f, reachQ_t, Bool.or_false, Bool.or_true, Bool.false_or, Bool.true_or, decide_false, decide_true, Nat.not_lt_zero, rootsB, List.getElem?_cons_succ, List.getElem?_cons_zero, ptrB_non, ptrB_flat, ptrL_eq, ptrL, ptrV_bool, ptrV_int, ptrV_string, ptrV_nilFunc, ptrV_nilIface, ptrV_nilPtr, ptrV_nilSl, ptrV_iface, ptrV_agg, ptrV_tuple, ptrV_func, ptrV_ptr, ptrV_sl, dep, ptrFn, List.nil_append, List.cons_append, List.append_nil, reach_nil, reachN, Nat.reduceEqDiff, Nat.reduceAdd, Nat.reduceSub, reduceCtorEq, Nat.reduceLT, Nat.lt_irrefl, List.flatMap_cons, List.flatMap_nil, optAll, renL_eq, renL, renB_flat, renB_non, renV_bool, renV_int, renV_string, renV_nilFunc, renV_nilIface, renV_nilPtr, renV_ptr, renV_nilSl, renV_sl, renV_iface, renV_agg, renV_tuple, renV_func, renFn, idx_nil, idx_cons, idxC_t, idxC_f, Option.map_some, Option.map_none]) rfl rfl h (by simp [mergeB, renV_nilPtr, renV_tuple, dep, optAll, renL, renV_int, renL_eq]) (by simp)
theorem rchA (es eb : List (Nat × Nat)) (rest : List Blk) : reach (.cells cs 2 true own :: (NW off n c 0 1 es eb ++ rest)) 0 reachN [2] [] = [2, 3, 4, 0, 5, 6, 1, 7, 8] := by
  simp only [reachP_cons, nblt, nbeq, mem_nil, mem_cons, memC_t, memC_f, reachQ_f, reachQ_t, Bool.or_false, Bool.or_true, Bool.false_or, Bool.true_or, decide_false, decide_true, Nat.not_lt_zero, rootsB, List.getElem?_cons_succ, List.getElem?_cons_zero, ptrB_non, ptrB_flat, ptrL_eq, ptrL, ptrV_bool, ptrV_int, ptrV_string, ptrV_nilFunc, ptrV_nilIface, ptrV_nilPtr, ptrV_nilSl, ptrV_iface, ptrV_agg, ptrV_tuple, ptrV_func, ptrV_ptr, ptrV_sl, dep, ptrFn, List.nil_append, List.cons_append, List.append_nil, reach_nil, reachN, Nat.reduceEqDiff, Nat.reduceAdd, Nat.reduceSub, reduceCtorEq, Nat.reduceLT, Nat.lt_irrefl, List.flatMap_cons, List.flatMap_nil, optAll, renL_eq, renL, renB_flat, renB_non, renV_bool, renV_int, renV_string, renV_nilFunc, renV_nilIface, renV_nilPtr, renV_ptr, renV_nilSl, renV_sl, renV_iface, renV_agg, renV_tuple, renV_func, renFn, idx_nil, idx_cons, idxC_t, idxC_f, Option.map_some, Option.map_none, fm_ptr, ptrV_map]
theorem pickA (es eb : List (Nat × Nat)) (rest : List Blk) : optAll (pickB (.cells cs 2 true own :: (NW off n c 0 1 es eb ++ rest)) (idx [2, 3, 4, 0, 5, 6, 1, 7, 8])) [2, 3, 4, 0, 5, 6, 1, 7, 8] = some (HR0 off n c cs own es eb) := by
  simp (maxSteps := 1000000) (disch := first | omega | decide | assumption | simp [scal]) [pickB, renV_map, fm_ren]
/-- the rests' table is asked -/
theorem askA (hc : SpC cs off n l) (hn : n ≤ 12) (es eb : List (Nat × Nat)) (rest : List Blk) (M : Nat) (hi : InvR (nxB l n) n es) (hM : M < 2 ^ n) : ∃ es' wr, InvR (nxB l n) n es' ∧ ((wr = [] ∧ es' = es) ∨ wr = [3]) ∧
    callH LL 60 [pp 2, wv M] (.cells cs 2 true own :: (NW off n c 0 1 es eb ++ rest)) = some ⟨iv (cR (nxB l n) n (cntU n M) M : Nat), .cells cs 2 true own :: (NW off n c 0 1 es' eb ++ rest), [2, 3, 4, 0, 5, 6, 1, 7, 8], wr⟩ := by
  obtain ⟨es', ws, i1, i2, i3⟩ := get_ok off n c (own := own) hc hn eb (cntU n M) es M hi hM rfl
  rcases i2 with ⟨rfl, rfl⟩ | rfl
  · exact ⟨es', [], i1, .inl ⟨rfl, rfl⟩, callH_lit (by intro _; first | trivial | rfl) rfl (rchA ..) rfl (pickA ..) i3 (by simp [mergeB, renV_int, dep, optAll]) (by simp)⟩
  · exact ⟨es', [3], i1, .inr rfl, callH_lit (by intro _; first | trivial | rfl) rfl (rchA ..) rfl (pickA ..) i3 (by simp [mergeB, renV_int, dep, optAll, fm_ren]) (by simp)⟩
end
section
variable (b off n c : Nat) {cs : List Value} {own : Bool} {l : Nat → Int × Int} {h : List Blk} (hb : h[b]? = some (.cells cs 2 true own)) (hc : SpC cs off n l)
include hb hc
theorem k23 (hn : n ≤ 60) : callH LL 23 [sl b off n c] h = some ⟨.tuple #[iv (cntV l n : Nat), iv (cntE l n)], h, [b], []⟩ := by
  refine callH_1 rfl hb noIdB_flat (args' := [sl 0 off n c]) (by simp [renV, dep, optAll, idx, nbeq]) (go (by decide) ?_) (fun _ => rfl)
  have a := k59 off n c (own := own) hc hn
  rw [run23 _ _ _ (by simp)]
  unfold cntV
  by_cases h1 : cntE l n = 0
  · rw [if_pos h1] at a
    obtain ⟨h2, h3, h4⟩ := cntE_ok h1
    obtain ⟨es', wr, i1, i2, i3⟩ := askA off n c (own := own) hc h3 [(2 ^ n - 1, 1)] [(0, 1)] [] 0 inv0 (Nat.two_pow_pos n)
    rw [cntU_zero] at i3
    rw [if_pos h1, h1]
    generalize cR (nxB l n) n n 0 = Z at *
    simp only [Int.natCast_zero, List.append_nil] at i3
    rw [show wv 0 = .int .u32 0 from rfl] at i3
    rcases i2 with ⟨rfl, rfl⟩ | rfl
    · simp (maxSteps := 1000000) (disch := first | omega | decide | assumption | simp [scal]) [o_fieldAddr fa_90_1 (by decide), loadA_eq ia_88, a, i3, fm_ptr, fm_ren, ptrV_map, renV_map]
    · simp (maxSteps := 1000000) (disch := first | omega | decide | assumption | simp [scal]) [o_fieldAddr fa_90_1 (by decide), loadA_eq ia_88, a, i3, fm_ptr, fm_ren, ptrV_map, renV_map]
  · rw [if_neg h1] at a
    rw [if_neg h1]
    simp (maxSteps := 1000000) (disch := first | omega | decide | assumption | simp [scal]) [o_fieldAddr fa_90_1 (by decide), loadA_eq ia_88, a, h1]
end
end Go.Proofs.Ytfccmddkblbeoaa.rk
namespace Go.Proofs.Ytfccmddkblbeoaa.rk
open Go.GE
set_option linter.unusedVariables false
set_option linter.unusedSimpArgs false
set_option linter.unusedSectionVars false
set_option maxRecDepth 100000
set_option maxHeartbeats 4000000
attribute [local simp] runOps_nil runOps_cons runOpsF_nil runOpsF_cons fstS_some fstF_some opStep_eq want_none oStep_true oStep_false fin_pure fin_read fin_alloc fin_write storeB wrN cellV addWr o_move o_assign o_pick o_alloc o_box o_load o_store o_nilCheck o_bin o_un o_extract o_callV o_callB o_callI callV_f callV_y callV_fc o_makeFunc partsA Instr.fill builtin_len builtin_max2 bin_add bin_sub bin_mul bin_quo bin_rem bin_lss bin_leq bin_gtr bin_geq bin_eql bin_neq un_neg un_not bin_shr bin_shl wrap_u64_id opd opds optAll putO nbeq nblt constOk isC ops sub cl cr co bodyOf thenS_normal thenS_ret thenS_exit thenS_goto afterN_normal afterN_ret afterN_exit afterN_goto condS_true condS_false blockS_normal blockS_ret blockS_exit blockS_goto headS normS normK_eq fixS_nil fixS_cons fix1 fixV emptyB keepO_nil keepO_cons roundC_normal roundC_exit roundC_ret roundC_goto sweep_eq sweepD rnm pickR pickW rootsB ptrT renT ptrFn renFn ptrB_flat ptrB_non renB_flat renB_non plainS_some drawS_some fpsOk disj unord range' dropTo enumT undef wrap_i64_id Value.cells mkCells ptrTo scal cellsAt rdN endS_ret resultsA Option.bind_some tupV finish reachN dep ptrL_eq ptrL renL_eq renL ptrV_bool ptrV_int ptrV_string ptrV_nilFunc ptrV_nilIface ptrV_nilPtr ptrV_ptr ptrV_nilSl ptrV_sl ptrV_iface ptrV_agg ptrV_tuple ptrV_func renV_bool renV_int renV_string renV_nilFunc renV_nilIface renV_nilPtr renV_ptr renV_nilSl renV_sl renV_iface renV_agg renV_tuple renV_func gotoS_goto gotoS_normal gotoS_exit gotoS_ret skip_seq sliceE bnd bndHi intOf optOpd keepT_nil keepT_cons keepC_t keepC_f lk_nil lk_cons lkC_t lkC_f has_nil has_cons hasC_t hasC_f rep_nil rep_cons repC_t repC_f put_eq putC_t putC_f mem_nil mem_cons memC_t memC_f idx_nil idx_cons idxC_t idxC_f reach_nil reachP_cons reachQ_t reachQ_f ptrB_dead renB_dead ins_eq
attribute [local simp] n63_1s n63_4s n63_7s n63_8s n63_6s n63_9s n63_5s n63_3s n63_12s n63_17s n63_19s n63_20s n63_18s n63_16s n63_24s n63_27s n63_28s n63_26s n63_29s n63_25s n63_23s n63_22s n63_30s n63_21s n63_15s n63_14s n63_14g n63_13s n63_11s n63_32s n63_33s n63_31s n63_10s n63_2s n63_0s Try.f63
theorem wrap_nn {n : Nat} (h : n < 2 ^ 63) : IntKind.i64.wrap (n : Int) = n := wrap_i64_id (by omega) (by omega)
theorem bin_and1i {P : Program} {t : TypeId} {c : Bool} {w : Nat} (h : w < 2 ^ 63) : binA P .and t c (.int .i64 (w : Int)) (.int .i64 1) = some (.int .i64 ((w % 2 : Nat) : Int)) := by
  have e : (BitVec.ofInt 64 (w : Int) &&& BitVec.ofInt 64 1).toNat = w % 2 := by
    rw [BitVec.ofInt_natCast]
    rw [show BitVec.ofInt 64 1 = BitVec.ofNat 64 1 from rfl, BitVec.toNat_and, BitVec.toNat_ofNat, BitVec.toNat_ofNat, Nat.mod_eq_of_lt (by omega), Nat.mod_eq_of_lt (by decide : 1 < 2 ^ 64), Nat.and_one_is_mod]
  have e' : IntKind.i64.wrap ((BitVec.ofInt 64 (w : Int) &&& BitVec.ofInt 64 1).toNat : Int) = ((w % 2 : Nat) : Int) := by rw [e]; exact wrap_nn (by omega)
  show some (Value.int .i64 (IntKind.i64.wrap ((BitVec.ofInt 64 (w : Int) &&& BitVec.ofInt 64 1).toNat : Int))) = _
  rw [e']
theorem bin_ori {P : Program} {t : TypeId} {c : Bool} {w v : Nat} (h : w < 2 ^ 63) (h' : v < 2 ^ 63) : binA P .or t c (.int .i64 (w : Int)) (.int .i64 (v : Int)) = some (.int .i64 ((w ||| v : Nat) : Int)) := by
  have hl : w ||| v < 2 ^ 63 := Nat.or_lt_two_pow h h'
  have e : (BitVec.ofInt 64 (w : Int) ||| BitVec.ofInt 64 (v : Int)).toNat = w ||| v := by
    rw [BitVec.ofInt_natCast, BitVec.ofInt_natCast, BitVec.toNat_or, BitVec.toNat_ofNat, BitVec.toNat_ofNat, Nat.mod_eq_of_lt (by omega), Nat.mod_eq_of_lt (by omega)]
  have e' : IntKind.i64.wrap ((BitVec.ofInt 64 (w : Int) ||| BitVec.ofInt 64 (v : Int)).toNat : Int) = ((w ||| v : Nat) : Int) := by rw [e]; exact wrap_nn hl
  show some (Value.int .i64 (IntKind.i64.wrap ((BitVec.ofInt 64 (w : Int) ||| BitVec.ofInt 64 (v : Int)).toNat : Int))) = _
  rw [e']
theorem fdiv_powi {w i : Nat} (hi : i < 64) : ((w : Int).fdiv (2 ^ min i IntKind.i64.bits)) = ((w / 2 ^ i : Nat) : Int) := by
  rw [show min i IntKind.i64.bits = i from Nat.min_eq_left (Nat.le_of_lt hi), Int.fdiv_eq_ediv_of_nonneg _ (by exact_mod_cast Nat.zero_le _)]
  simp
theorem shl_powi {J : Nat} (hJ : J < 63) : IntKind.i64.wrap (2 ^ min J IntKind.i64.bits) = ((2 ^ J : Nat) : Int) := by
  rw [show min J IntKind.i64.bits = J from Nat.min_eq_left (by have : IntKind.i64.bits = 64 := rfl; omega), show ((2 : Int) ^ J) = ((2 ^ J : Nat) : Int) by simp]
  exact wrap_nn (Nat.pow_lt_pow_right (by decide) hJ)
theorem bit_dm {M i : Nat} : M.testBit i = decide (M / 2 ^ i % 2 = 1) := Nat.testBit_eq_decide_div_mod_eq
section
variable (off n c : Nat) {cs : List Value} {own : Bool} {l : Nat → Int × Int}
theorem l63 (hc : SpC cs off n l) (hn : n ≤ 30) (M i : Nat) (hM : M < 2 ^ 32) (hi : i < n) : ∀ (k j : Nat), j + k = n →
    lpB Try.prog LL ⟨63, 50, 1, none⟩ n63_14 n63_15 ⟨[(0, sl 0 off n c), (1, iv M), (2, iv i), (11, iv j)], [.cells cs 2 true own], []⟩ =
      if nxK l M i k j = true then some (.exit 0, ⟨[], [.cells cs 2 true own], []⟩) else some (.ret, ⟨[(10, .bool false)], [.cells cs 2 true own], []⟩) := by
  intro k
  induction k with
  | zero =>
    intro j hj
    obtain rfl : j = n := by omega
    rw [lpB_eq]
    simp (maxSteps := 1000000) (disch := first | omega | decide | assumption | simp [scal]) [lenA_sl lk_22, want_some q63_4g5, want_some q63_4g9, want_some q63_4g13, want_some q63_24g5, nxK]
  | succ k ih =>
    intro j hj
    have e1 : (j : Int) < n := by omega
    have e0 : j < n := by omega
    have a1 := fun bx => k55 0 off n c (h := .cells cs 2 true own :: bx) rfl hc j i (by omega) hi
    have f1 := @fdiv_powi M j (by omega)
    have hq : M / 2 ^ j < 2 ^ 63 := by have := Nat.div_le_self M (2 ^ j); omega
    have f2 := fun cc => @bin_and1i Try.prog 3 cc _ hq
    have this := ih (j + 1) (by omega)
    unfold nxK
    simp only [cast1] at this
    rw [show M.testBit j = decide (M / 2 ^ j % 2 = 1) from bit_dm]
    generalize M / 2 ^ j = q at *
    generalize quiet l j i = x at *
    rw [lpB_eq]
    clear ih
    by_cases h1 : q % 2 = 1
    · have h1' : ¬ (q : Int) % 2 = 0 := by omega
      simp only [h1, decide_true, Bool.not_true, Bool.false_and, Bool.false_eq_true, if_false]
      simp (maxSteps := 1000000) (disch := first | omega | decide | assumption | simp [scal]) [lenA_sl lk_22, want_some q63_4g5, want_some q63_4g9, want_some q63_4g13, want_some q63_24g5, e0, e1, f1, f2, h1, h1', this]
    · have h0 : q % 2 = 0 := by omega
      have h1' : (q : Int) % 2 = 0 := by omega
      cases x <;> simp only [h1, decide_false, Bool.not_false, Bool.true_and, Bool.false_eq_true, if_false, if_true]
      · simp (maxSteps := 1000000) (disch := first | omega | decide | assumption | simp [scal]) [lenA_sl lk_22, want_some q63_4g5, want_some q63_4g9, want_some q63_4g13, want_some q63_24g5, e0, e1, f1, f2, h0, h1', a1, this]
      · simp (maxSteps := 1000000) (disch := first | omega | decide | assumption | simp [scal]) [lenA_sl lk_22, want_some q63_4g5, want_some q63_4g9, want_some q63_4g13, want_some q63_24g5, e0, e1, f1, f2, h0, h1', a1]
end
section
variable (b off n c : Nat) {cs : List Value} {own : Bool} {l : Nat → Int × Int} {h : List Blk} (hb : h[b]? = some (.cells cs 2 true own)) (hc : SpC cs off n l)
include hb hc
theorem k63 (hn : n ≤ 30) (M i : Nat) (hM : M < 2 ^ 32) (hi : i < n) : callH LL 63 [sl b off n c, iv M, iv i, iv (-1), iv (-1)] h = some ⟨.bool (nxB l n M i), h, [b], []⟩ := by
  refine callH_1 rfl hb noIdB_flat (args' := [sl 0 off n c, iv M, iv i, iv (-1), iv (-1)]) (by simp [renV, dep, optAll, idx, nbeq]) (go (by decide) ?_) fun _ => rfl
  have this := l63 off n c (own := own) hc hn M i hM hi n 0 (by omega)
  have f1 := @fdiv_powi M i (by omega)
  have hq : M / 2 ^ i < 2 ^ 63 := by have := Nat.div_le_self M (2 ^ i); omega
  have f2 := fun cc => @bin_and1i Try.prog 3 cc _ hq
  have e2 : ¬ (i : Int) = -1 := by omega
  simp only [Int.natCast_zero] at this
  unfold nxB
  rw [show M.testBit i = decide (M / 2 ^ i % 2 = 1) from bit_dm]
  generalize M / 2 ^ i = q at *
  rw [run63 _ _ _ (by simp)]
  by_cases h1 : q % 2 = 1
  · have h1' : (q : Int) % 2 = 1 := by omega
    simp only [h1, decide_true, Bool.not_true, Bool.false_and]
    simp (maxSteps := 1000000) (disch := first | omega | decide | assumption | simp [scal]) [lenA_sl lk_22, want_some q63_4g5, want_some q63_4g9, want_some q63_4g13, want_some q63_24g5, f1, f2, h1, h1', e2]
  · have h0 : q % 2 = 0 := by omega
    have h1' : ¬ (q : Int) % 2 = 1 := by omega
    simp only [h1, decide_false, Bool.not_false, Bool.true_and]
    cases h2 : nxK l M i n 0 <;> rw [h2] at this <;> simp only [Bool.false_eq_true, if_false, if_true] at this
    · simp (maxSteps := 1000000) (disch := first | omega | decide | assumption | simp [scal]) [lenA_sl lk_22, want_some q63_4g5, want_some q63_4g9, want_some q63_4g13, want_some q63_24g5, f1, f2, h0, h1', e2, this]
    · simp (maxSteps := 1000000) (disch := first | omega | decide | assumption | simp [scal]) [lenA_sl lk_22, want_some q63_4g5, want_some q63_4g9, want_some q63_4g13, want_some q63_24g5, f1, f2, h0, h1', e2, this]
end
end Go.Proofs.Ytfccmddkblbeoaa.rk
namespace Go.Proofs.Ytfccmddkblbeoaa.rk
open Go.GE
set_option linter.unusedVariables false
set_option linter.unusedSimpArgs false
set_option linter.unusedSectionVars false
set_option maxRecDepth 100000
set_option maxHeartbeats 4000000
attribute [local simp] runOps_nil runOps_cons runOpsF_nil runOpsF_cons fstS_some fstF_some opStep_eq want_none oStep_true oStep_false fin_pure fin_read fin_alloc fin_write storeB wrN cellV addWr o_move o_assign o_pick o_alloc o_box o_load o_store o_nilCheck o_bin o_un o_extract o_callV o_callB o_callI callV_f callV_y callV_fc o_makeFunc partsA Instr.fill builtin_len builtin_max2 bin_add bin_sub bin_mul bin_quo bin_rem bin_lss bin_leq bin_gtr bin_geq bin_eql bin_neq un_neg un_not bin_shr bin_shl wrap_u64_id opd opds optAll putO nbeq nblt constOk isC ops sub cl cr co bodyOf thenS_normal thenS_ret thenS_exit thenS_goto afterN_normal afterN_ret afterN_exit afterN_goto condS_true condS_false blockS_normal blockS_ret blockS_exit blockS_goto headS normS normK_eq fixS_nil fixS_cons fix1 fixV emptyB keepO_nil keepO_cons roundC_normal roundC_exit roundC_ret roundC_goto sweep_eq sweepD rnm pickR pickW rootsB ptrT renT ptrFn renFn ptrB_flat ptrB_non renB_flat renB_non plainS_some drawS_some fpsOk disj unord range' dropTo enumT undef wrap_i64_id Value.cells mkCells ptrTo scal cellsAt rdN endS_ret resultsA Option.bind_some tupV finish reachN dep ptrL_eq ptrL renL_eq renL ptrV_bool ptrV_int ptrV_string ptrV_nilFunc ptrV_nilIface ptrV_nilPtr ptrV_ptr ptrV_nilSl ptrV_sl ptrV_iface ptrV_agg ptrV_tuple ptrV_func renV_bool renV_int renV_string renV_nilFunc renV_nilIface renV_nilPtr renV_ptr renV_nilSl renV_sl renV_iface renV_agg renV_tuple renV_func gotoS_goto gotoS_normal gotoS_exit gotoS_ret skip_seq sliceE bnd bndHi intOf optOpd keepT_nil keepT_cons keepC_t keepC_f lk_nil lk_cons lkC_t lkC_f has_nil has_cons hasC_t hasC_f rep_nil rep_cons repC_t repC_f put_eq putC_t putC_f mem_nil mem_cons memC_t memC_f idx_nil idx_cons idxC_t idxC_f reach_nil reachP_cons reachQ_t reachQ_f ptrB_dead renB_dead ins_eq
attribute [local simp] n62_1s n62_3s n62_5s n62_8s n62_13s n62_15s n62_16s n62_14s n62_12s n62_20s n62_25s n62_27s n62_28s n62_26s n62_24s n62_32s n62_34s n62_35s n62_33s n62_31s n62_30s n62_36s n62_29s n62_23s n62_22s n62_22g n62_21s n62_19s n62_18s n62_37s n62_17s n62_11s n62_10s n62_10g n62_9s n62_7s n62_39s n62_40s n62_38s n62_6s n62_4s n62_2s n62_0s Try.f62
def tL (g : Nat → Nat) (N : Nat) : List Value := (List.range N).map fun x => iv (g x : Nat)
abbrev tb (g : Nat → Nat) (N : Nat) : Blk := .cells (tL g N) 1 true true
def up (g : Nat → Nat) (S v : Nat) : Nat → Nat := fun x => if x = S then v else g x
theorem tL_len {g : Nat → Nat} {N : Nat} : (tL g N).length = N := by simp [tL]
theorem tL_get {g : Nat → Nat} {N x : Nat} (h : x < N) : (tL g N)[x]? = some (iv (g x : Nat)) := by simp [tL, h]
theorem tL_set {g : Nat → Nat} {N S v : Nat} : (tL g N).set S (iv (v : Nat)) = tL (up g S v) N := by
  apply List.ext_getElem?
  intro j
  rw [List.getElem?_set, tL_len]
  by_cases hn : j < N
  · rw [tL_get hn, tL_get hn]
    by_cases hj : S = j
    · subst hj; simp [up, hn]
    · have : ¬ j = S := fun h => hj h.symm
      simp [up, hj, this]
  · rw [List.getElem?_eq_none (by rw [tL_len]; omega), List.getElem?_eq_none (by rw [tL_len]; omega)]
    by_cases hj : S = j
    · rw [if_pos hj, if_neg (by omega)]
    · rw [if_neg hj]
theorem tL_zero {N : Nat} : List.replicate N (iv 0) = tL (fun _ => 0) N := by
  apply List.ext_getElem?
  intro j
  by_cases hn : j < N
  · rw [tL_get hn]; simp [hn]
  · rw [List.getElem?_eq_none (by simp; omega), List.getElem?_eq_none (by rw [tL_len]; omega)]
theorem tL_congr {g g' : Nat → Nat} {N : Nat} (h : ∀ x, x < N → g x = g' x) : tL g N = tL g' N := by
  unfold tL
  apply List.map_congr_left
  intro x hx
  rw [h x (List.mem_range.1 hx)]
theorem up_up {g : Nat → Nat} {S v w : Nat} : up (up g S v) S w = up g S w := by
  funext x; unfold up; split <;> rfl
theorem up_self {g : Nat → Nat} {S v : Nat} : up g S v S = v := by simp [up]
theorem up_other {g : Nat → Nat} {S v x : Nat} (h : x ≠ S) : up g S v x = g x := by simp [up, h]
theorem or_gt {M j : Nat} (h : M.testBit j = false) : M < M ||| 2 ^ j := by
  have h1 : M ≤ M ||| 2 ^ j := Nat.left_le_or
  rcases Nat.lt_or_ge M (M ||| 2 ^ j) with h2 | h2
  · exact h2
  · have e : M ||| 2 ^ j = M := Nat.le_antisymm h2 h1
    have := congrArg (fun z => z.testBit j) e
    simp only [bit_or, h] at this
    simp at this
/-- the number of ways in which a set goes on -/
def gR (nx : Nat → Nat → Bool) (n : Nat) (x : Nat) : Nat := cR nx n (cntU n x) x
section
variable (off n c : Nat) {cs : List Value} {own : Bool} {nx : Nat → Nat → Bool} (A B : Int)
def NxOK (nx : Nat → Nat → Bool) (n : Nat) (A B : Int) (v : Value) (b0 : Blk) : Prop := (∀ M i, nx M i = true → M.testBit i = false) ∧
  ∀ M i bx, M < 2 ^ 32 → i < n → callH LL 63 [v, iv (M : Nat), iv (i : Nat), iv A, iv B] (b0 :: bx) = some ⟨.bool (nx M i), b0 :: bx, [0], []⟩
theorem l62i (hx : NxOK nx n A B (sl 0 off n c) (.cells cs 2 true own)) (hn : n ≤ 12) (S k : Nat) (hS : S < 2 ^ n) (hk : cntU n S = k + 1) (g : Nat → Nat) (hg : ∀ x, S < x → x < 2 ^ n → g x = gR nx n x) :
    ∀ (q j a : Nat), j + q = n → a + q * n ^ k ≤ 1000000000000000 →
    lpB Try.prog LL ⟨62, 52, 1, none⟩ n62_22 n62_23 ⟨[(9, iv j), (0, sl 0 off n c), (1, iv A), (2, iv B), (7, sl 1 0 (2 ^ n) (2 ^ n)), (8, iv S)], [.cells cs 2 true own, tb (up g S a) (2 ^ n)], []⟩ =
      some (.exit 2, ⟨[(0, sl 0 off n c), (1, iv A), (2, iv B), (7, sl 1 0 (2 ^ n) (2 ^ n)), (8, iv S)], [.cells cs 2 true own, tb (up g S (cS (cF nx n k S) q j a)) (2 ^ n)], []⟩) := by
  have hS32 : S < 2 ^ 32 := Nat.lt_of_lt_of_le hS (Nat.pow_le_pow_right (by decide) (by omega))
  intro q
  induction q with
  | zero =>
    intro j a hj hb
    obtain rfl : j = n := by omega
    simp only [cS, tb]
    generalize tL (up g S a) (2 ^ j) = U
    generalize 2 ^ j = N at *
    rw [lpB_eq]
    simp (maxSteps := 1000000) (disch := first | omega | decide | assumption | simp [scal]) [lenA_sl lk_22, lenA_sl lk_24, o_indexAddrS es_24, sz_3, loadA_eq ia_3]
  | succ q ih =>
    intro j a hj hb
    have e0 : j < n := by omega
    have e1 : (j : Int) < n := by omega
    have a1 := fun bx => hx.2 S j bx hS32 e0
    rw [Nat.add_mul] at hb
    cases h : nx S j
    · simp only [h] at a1
      have hf : cF nx n k S j = 0 := by simp only [cF, h, cond_false]
      have this := ih (j + 1) (a + 0) (by omega) (by omega)
      simp only [cS, hf]
      simp only [cast1, Nat.add_zero, tb] at this ⊢
      generalize cS (cF nx n k S) q (j + 1) a = Z at *
      generalize tL (up g S a) (2 ^ n) = U at *
      generalize tL (up g S Z) (2 ^ n) = U2 at *
      clear ih hg hx
      generalize 2 ^ n = N at *
      rw [lpB_eq]
      simp (maxSteps := 1000000) (disch := first | omega | decide | assumption | simp [scal]) [lenA_sl lk_22, lenA_sl lk_24, o_indexAddrS es_24, sz_3, loadA_eq ia_3, e0, e1, a1, this]
    · simp only [h] at a1
      have hb0 := hx.1 S j h
      have hcn := cntU_lt hb0 n e0
      have h2 : S ||| 2 ^ j < 2 ^ n := Nat.or_lt_two_pow hS (Nat.pow_lt_pow_right (by decide) e0)
      have h3 := or_gt hb0
      have hf : cF nx n k S j = cR nx n k (S ||| 2 ^ j) := by simp only [cF, h, cond_true]
      have hv : cR nx n k (S ||| 2 ^ j) ≤ n ^ k := cR_le _ _
      have hgv : up g S a (S ||| 2 ^ j) = cR nx n k (S ||| 2 ^ j) := by
        rw [up_other (by omega), hg _ h3 h2]
        unfold gR
        rw [show cntU n (S ||| 2 ^ j) = k by omega]
      have this := ih (j + 1) (a + cR nx n k (S ||| 2 ^ j)) (by omega) (by omega)
      have p1 := tL_get (g := up g S a) hS
      have p2 := tL_get (g := up g S a) h2
      rw [up_self] at p1
      rw [hgv] at p2
      have u1 := fun v => tL_set (g := up g S a) (N := 2 ^ n) (S := S) (v := v)
      simp only [up_up] at u1
      have ul := tL_len (g := up g S a) (N := 2 ^ n)
      have s1 := shl_powi (J := j) (by omega)
      have s2 := fun cc => @bin_ori Try.prog 3 cc S (2 ^ j) (by omega) (Nat.pow_lt_pow_right (by decide) (by omega))
      simp only [cS, hf]
      simp only [cast1, tb] at this ⊢
      clear hf hgv hcn
      have w1 := u1 (a + cR nx n k (S ||| 2 ^ j))
      clear u1
      generalize cR nx n k (S ||| 2 ^ j) = v at *
      generalize cS (cF nx n k S) q (j + 1) (a + v) = Z at *
      have hwrap : IntKind.i64.wrap ((a : Int) + (v : Int)) = ((a + v : Nat) : Int) := by rw [wrap_i64_id (by omega) (by omega)]; rfl
      clear ih hg hx
      generalize ((a + v : Nat) : Int) = av at *
      generalize tL (up g S (a + v)) (2 ^ n) = U1 at *
      generalize tL (up g S a) (2 ^ n) = U at *
      generalize tL (up g S Z) (2 ^ n) = U2 at *
      generalize S ||| 2 ^ j = S2 at *
      generalize ((2 ^ j : Nat) : Int) = J2 at *
      generalize 2 ^ n = N at *
      have l1 : S < U.length := by omega
      have l2 : S2 < U.length := by omega
      obtain ⟨_, p1⟩ := List.getElem?_eq_some_iff.1 p1
      obtain ⟨_, p2⟩ := List.getElem?_eq_some_iff.1 p2
      rw [lpB_eq]
      simp (maxSteps := 1000000) (disch := first | omega | decide | assumption | simp [scal]) [lenA_sl lk_22, lenA_sl lk_24, o_indexAddrS es_24, sz_3, loadA_eq ia_3, e0, e1, a1, s1, s2, l1, l2, hS, h2, p1, p2, ul, w1, hwrap, this]
end
end Go.Proofs.Ytfccmddkblbeoaa.rk
namespace Go.Proofs.Ytfccmddkblbeoaa.rk
open Go.GE
set_option linter.unusedVariables false
set_option linter.unusedSimpArgs false
set_option linter.unusedSectionVars false
set_option maxRecDepth 100000
set_option maxHeartbeats 4000000
attribute [local simp] runOps_nil runOps_cons runOpsF_nil runOpsF_cons fstS_some fstF_some opStep_eq want_none oStep_true oStep_false fin_pure fin_read fin_alloc fin_write storeB wrN cellV addWr o_move o_assign o_pick o_alloc o_box o_load o_store o_nilCheck o_bin o_un o_extract o_callV o_callB o_callI callV_f callV_y callV_fc o_makeFunc partsA Instr.fill builtin_len builtin_max2 bin_add bin_sub bin_mul bin_quo bin_rem bin_lss bin_leq bin_gtr bin_geq bin_eql bin_neq un_neg un_not bin_shr bin_shl wrap_u64_id opd opds optAll putO nbeq nblt constOk isC ops sub cl cr co bodyOf thenS_normal thenS_ret thenS_exit thenS_goto afterN_normal afterN_ret afterN_exit afterN_goto condS_true condS_false blockS_normal blockS_ret blockS_exit blockS_goto headS normS normK_eq fixS_nil fixS_cons fix1 fixV emptyB keepO_nil keepO_cons roundC_normal roundC_exit roundC_ret roundC_goto sweep_eq sweepD rnm pickR pickW rootsB ptrT renT ptrFn renFn ptrB_flat ptrB_non renB_flat renB_non plainS_some drawS_some fpsOk disj unord range' dropTo enumT undef wrap_i64_id Value.cells mkCells ptrTo scal cellsAt rdN endS_ret resultsA Option.bind_some tupV finish reachN dep ptrL_eq ptrL renL_eq renL ptrV_bool ptrV_int ptrV_string ptrV_nilFunc ptrV_nilIface ptrV_nilPtr ptrV_ptr ptrV_nilSl ptrV_sl ptrV_iface ptrV_agg ptrV_tuple ptrV_func renV_bool renV_int renV_string renV_nilFunc renV_nilIface renV_nilPtr renV_ptr renV_nilSl renV_sl renV_iface renV_agg renV_tuple renV_func gotoS_goto gotoS_normal gotoS_exit gotoS_ret skip_seq sliceE bnd bndHi intOf optOpd keepT_nil keepT_cons keepC_t keepC_f lk_nil lk_cons lkC_t lkC_f has_nil has_cons hasC_t hasC_f rep_nil rep_cons repC_t repC_f put_eq putC_t putC_f mem_nil mem_cons memC_t memC_f idx_nil idx_cons idxC_t idxC_f reach_nil reachP_cons reachQ_t reachQ_f ptrB_dead renB_dead ins_eq
attribute [local simp] n62_1s n62_3s n62_5s n62_8s n62_13s n62_15s n62_16s n62_14s n62_12s n62_20s n62_25s n62_27s n62_28s n62_26s n62_24s n62_32s n62_34s n62_35s n62_33s n62_31s n62_30s n62_36s n62_29s n62_23s n62_22s n62_22g n62_21s n62_19s n62_18s n62_37s n62_17s n62_11s n62_10s n62_10g n62_9s n62_7s n62_39s n62_40s n62_38s n62_6s n62_4s n62_2s n62_0s Try.f62
theorem cnt_pos {n S : Nat} (h : S + 1 < 2 ^ n) : 0 < cntU n S := by
  rcases Nat.eq_zero_or_pos (cntU n S) with h0 | h0
  · have := all_bits (show S < 2 ^ n by omega) h0
    omega
  · exact h0
section
variable (off n c : Nat) {cs : List Value} {own : Bool} {nx : Nat → Nat → Bool} (A B : Int)
theorem l62 (hx : NxOK nx n A B (sl 0 off n c) (.cells cs 2 true own)) (hn : n ≤ 12) : ∀ (s : Nat) (g : Nat → Nat), s < 2 ^ n → (∀ x, s ≤ x → x < 2 ^ n → g x = gR nx n x) → (∀ x, x < s → g x = 0) →
    lpB Try.prog LL ⟨62, 52, 1, none⟩ n62_10 n62_11 ⟨[(0, sl 0 off n c), (1, iv A), (2, iv B), (7, sl 1 0 (2 ^ n) (2 ^ n)), (8, iv ((s : Int) - 1))], [.cells cs 2 true own, tb g (2 ^ n)], []⟩ =
      some (.exit 0, ⟨[(7, sl 1 0 (2 ^ n) (2 ^ n))], [.cells cs 2 true own, tb (gR nx n) (2 ^ n)], []⟩) := by
  intro s
  induction s with
  | zero =>
    intro g hs hg h0
    have e : tL g (2 ^ n) = tL (gR nx n) (2 ^ n) := tL_congr fun x hx => hg x (by omega) hx
    simp only [tb, e]
    generalize tL (gR nx n) (2 ^ n) = U
    generalize 2 ^ n = N at *
    rw [show ((0 : Nat) : Int) - 1 = -1 from rfl]
    rw [lpB_eq]
    simp (maxSteps := 1000000) (disch := first | omega | decide | assumption | simp [scal]) [lenA_sl lk_22, lenA_sl lk_24, o_indexAddrS es_24, sz_3, loadA_eq ia_3]
  | succ s ih =>
    intro g hs hg h0
    have hp := cnt_pos (n := n) (S := s) (by omega)
    obtain ⟨k, hk⟩ : ∃ k, cntU n s = k + 1 := ⟨cntU n s - 1, by omega⟩
    have hkn : k + 1 ≤ n := by have := cntU_le (n := n) (M := s); omega
    have hpw := pow_le12 hn (show k ≤ 12 by omega)
    have hN2 : 2 ^ n ≤ 4096 := by have := Nat.pow_le_pow_right (n := 2) (by decide) hn; omega
    have hnp : n * n ^ k ≤ 12 * 8916100448256 := Nat.mul_le_mul hn hpw
    have inn := l62i off n c (own := own) A B hx hn s k (by omega) hk g (fun x h1 h2 => hg x (by omega) h2) n 0 0 (by omega) (by omega)
    have hv : cS (cF nx n k s) n 0 0 = gR nx n s := by unfold gR; rw [hk]; rfl
    rw [hv] at inn
    have e0 : tL (up g s 0) (2 ^ n) = tL g (2 ^ n) := tL_congr fun x hx => by
      unfold up
      split
      · rename_i h; subst h; exact (h0 _ (by omega)).symm
      · rfl
    have this := ih (up g s (gR nx n s)) (by omega) (fun x h1 h2 => by
      by_cases hxs : x = s
      · subst hxs; exact up_self
      · rw [up_other hxs]; exact hg x (by omega) h2) (fun x h1 => by rw [up_other (by omega)]; exact h0 x (by omega))
    simp only [tb, e0, Int.natCast_zero] at inn this ⊢
    rw [show ((s + 1 : Nat) : Int) - 1 = (s : Int) by omega]
    clear ih hg h0 hx e0 hv hk hp
    generalize tL (up g s (gR nx n s)) (2 ^ n) = U1 at *
    generalize tL (gR nx n) (2 ^ n) = U2 at *
    generalize tL g (2 ^ n) = U at *
    generalize 2 ^ n = N at *
    have hs0 : (0 : Int) ≤ s := by omega
    rw [lpB_eq]
    simp (maxSteps := 1000000) (disch := first | omega | decide | assumption | simp [scal]) [lenA_sl lk_22, lenA_sl lk_24, o_indexAddrS es_24, sz_3, loadA_eq ia_3, hs0, inn, this]
theorem r62 (hx : NxOK nx n A B (sl 0 off n c) (.cells cs 2 true own)) (hn : n ≤ 12) : LL.run 62 [sl 0 off n c, iv A, iv B] [.cells cs 2 true own] = some ⟨sl 1 0 (2 ^ n) (2 ^ n), [tb (gR nx n) (2 ^ n)], []⟩ := by
  refine go (by decide) ?_
  have hN : 1 ≤ 2 ^ n := Nat.two_pow_pos n
  have hN2 : 2 ^ n ≤ 4096 := by have := Nat.pow_le_pow_right (n := 2) (by decide) hn; omega
  have this := l62 off n c (own := own) A B hx hn (2 ^ n - 1) (up (fun _ => 0) (2 ^ n - 1) 1) (by omega) (fun x h1 h2 => by
    obtain rfl : x = 2 ^ n - 1 := by omega
    rw [up_self]
    unfold gR
    rw [cntU_all n (Nat.le_refl _)]
    rfl) (fun x h => up_other (by omega))
  have s1 := shl_powi (J := n) (by omega)
  have u1 := tL_set (g := fun _ => 0) (N := 2 ^ n) (S := 2 ^ n - 1) (v := 1)
  have ul := tL_len (g := fun _ => 0) (N := 2 ^ n)
  have z1 := tL_zero (N := 2 ^ n)
  simp only [tb] at this ⊢
  clear hx
  rw [show ((2 ^ n - 1 : Nat) : Int) - 1 = ((2 ^ n : Nat) : Int) - 2 by omega] at this
  simp only [Int.natCast_one] at u1
  generalize tL (up (fun _ => 0) (2 ^ n - 1) 1) (2 ^ n) = U1 at *
  generalize tL (gR nx n) (2 ^ n) = U2 at *
  generalize tL (fun _ => 0) (2 ^ n) = U at *
  generalize 2 ^ n = N at *
  have m0 : (N : Int) * 8 ≤ 70368744177664 := by omega
  have m1 : (N : Int) ≤ 70368744177664 := by omega
  have l1 : N - 1 < U.length := by omega
  have t1 : ((N : Int) - 1).toNat = N - 1 := by omega
  have t2 : (0 : Int) ≤ (N : Int) - 1 := by omega
  have t3 : (N : Int) - 1 < N := by omega
  have t4 : (1 : Int) ≤ N := by omega
  have t5 : N - 1 < N := by omega
  rw [run62 _ _ _ (by simp)]
  simp (maxSteps := 1000000) (disch := first | omega | decide | assumption | simp [scal]) [lenA_sl lk_22, lenA_sl lk_24, o_indexAddrS es_24, sz_3, loadA_eq ia_3, s1, mk24, m0, m1, z1, ul, l1, t1, t2, t3, t4, t5, u1, this]
end
end Go.Proofs.Ytfccmddkblbeoaa.rk
namespace Go.Proofs.Ytfccmddkblbeoaa.rk
open Go.GE
set_option linter.unusedVariables false
set_option linter.unusedSimpArgs false
set_option linter.unusedSectionVars false
set_option maxRecDepth 100000
set_option maxHeartbeats 4000000
attribute [local simp] runOps_nil runOps_cons runOpsF_nil runOpsF_cons fstS_some fstF_some opStep_eq want_none oStep_true oStep_false fin_pure fin_read fin_alloc fin_write storeB wrN cellV addWr o_move o_assign o_pick o_alloc o_box o_load o_store o_nilCheck o_bin o_un o_extract o_callV o_callB o_callI callV_f callV_y callV_fc o_makeFunc partsA Instr.fill builtin_len builtin_max2 bin_add bin_sub bin_mul bin_quo bin_rem bin_lss bin_leq bin_gtr bin_geq bin_eql bin_neq un_neg un_not bin_shr bin_shl wrap_u64_id opd opds optAll putO nbeq nblt constOk isC ops sub cl cr co bodyOf thenS_normal thenS_ret thenS_exit thenS_goto afterN_normal afterN_ret afterN_exit afterN_goto condS_true condS_false blockS_normal blockS_ret blockS_exit blockS_goto headS normS normK_eq fixS_nil fixS_cons fix1 fixV emptyB keepO_nil keepO_cons roundC_normal roundC_exit roundC_ret roundC_goto sweep_eq sweepD rnm pickR pickW rootsB ptrT renT ptrFn renFn ptrB_flat ptrB_non renB_flat renB_non plainS_some drawS_some fpsOk disj unord range' dropTo enumT undef wrap_i64_id Value.cells mkCells ptrTo scal cellsAt rdN endS_ret resultsA Option.bind_some tupV finish reachN dep ptrL_eq ptrL renL_eq renL ptrV_bool ptrV_int ptrV_string ptrV_nilFunc ptrV_nilIface ptrV_nilPtr ptrV_ptr ptrV_nilSl ptrV_sl ptrV_iface ptrV_agg ptrV_tuple ptrV_func renV_bool renV_int renV_string renV_nilFunc renV_nilIface renV_nilPtr renV_ptr renV_nilSl renV_sl renV_iface renV_agg renV_tuple renV_func gotoS_goto gotoS_normal gotoS_exit gotoS_ret skip_seq sliceE bnd bndHi intOf optOpd keepT_nil keepT_cons keepC_t keepC_f lk_nil lk_cons lkC_t lkC_f has_nil has_cons hasC_t hasC_f rep_nil rep_cons repC_t repC_f put_eq putC_t putC_f mem_nil mem_cons memC_t memC_f idx_nil idx_cons idxC_t idxC_f reach_nil reachP_cons reachQ_t reachQ_f ptrB_dead renB_dead ins_eq
attribute [local simp] n25_1s n25_3s n25_6s n25_8s n25_9s n25_7s n25_5s n25_12s n25_15s n25_16s n25_14s n25_17s n25_13s n25_11s n25_19s n25_22s n25_26s n25_29s n25_30s n25_28s n25_34s n25_37s n25_41s n25_44s n25_45s n25_43s n25_49s n25_51s n25_53s n25_54s n25_52s n25_50s n25_48s n25_47s n25_55s n25_46s n25_42s n25_40s n25_39s n25_39g n25_38s n25_36s n25_56s n25_35s n25_33s n25_32s n25_57s n25_31s n25_27s n25_25s n25_24s n25_24g n25_23s n25_21s n25_59s n25_60s n25_58s n25_20s n25_18s n25_10s n25_4s n25_2s n25_0s Try.f25
def fN (nx : Nat → Nat → Bool) (n M : Nat) (i : Nat) : Nat := cond (nx M i) (gR nx n (M ||| 2 ^ i)) 0
def nmO (nx : Nat → Nat → Bool) (n : Nat) (o : Nat → Int) : Nat → Nat → Nat → Nat → Nat
  | 0, _, _, a => a
  | k + 1, p, M, a => nmO nx n o k (p + 1) (M ||| 2 ^ (o p).toNat) (cS (fN nx n M) (o p).toNat 0 a)
theorem gR_le {nx : Nat → Nat → Bool} {n M : Nat} (hn : n ≤ 12) : gR nx n M ≤ 8916100448256 := by
  unfold gR
  have h1 := cR_le (nx := nx) (n := n) (cntU n M) M
  have h2 := cntU_le (n := n) (M := M)
  have h3 := pow_le12 hn (show cntU n M ≤ 12 by omega)
  omega
theorem fN_le {nx : Nat → Nat → Bool} {n M : Nat} (hn : n ≤ 12) (i : Nat) : fN nx n M i ≤ 8916100448256 := by
  unfold fN
  cases nx M i
  · exact Nat.zero_le _
  · exact gR_le hn
section
variable (off n c : Nat) {cs : List Value} {own : Bool} {l : Nat → Int × Int} (X : Blk)
abbrev LN (cs : List Value) (own : Bool) (es eb : List (Nat × Nat)) : List Blk := [.cells cs 2 true own, X, .cells [sl 0 off n c, pp 3, pp 8] 1 false true, .cells [.map (some 4), .func (.func 80) #[] #[pp 5, pp 6, pp 7]] 1 false true, fmB es,
  .cells [sl 0 off n c] 1 false true, mayB, .cells [pp 2] 1 false true, .cells [.map (some 9), .func (.func 81) #[] #[pp 5, pp 7]] 1 false true, fmB eb]
theorem rchN (es eb : List (Nat × Nat)) : reach (LN off n c X cs own es eb) 0 reachN [3] [] = [3, 4, 5, 0, 6, 7, 2, 8, 9] := by
  simp only [reachP_cons, nblt, nbeq, mem_nil, mem_cons, memC_t, memC_f, reachQ_f, reachQ_t, Bool.or_false, Bool.or_true, Bool.false_or, Bool.true_or, decide_false, decide_true, Nat.not_lt_zero, rootsB, List.getElem?_cons_succ, List.getElem?_cons_zero, ptrB_non, ptrB_flat, ptrL_eq, ptrL, ptrV_bool, ptrV_int, ptrV_string, ptrV_nilFunc, ptrV_nilIface, ptrV_nilPtr, ptrV_nilSl, ptrV_iface, ptrV_agg, ptrV_tuple, ptrV_func, ptrV_ptr, ptrV_sl, dep, ptrFn, List.nil_append, List.cons_append, List.append_nil, reach_nil, reachN, Nat.reduceEqDiff, Nat.reduceAdd, Nat.reduceSub, reduceCtorEq, Nat.reduceLT, Nat.lt_irrefl, List.flatMap_cons, List.flatMap_nil, optAll, renL_eq, renL, renB_flat, renB_non, renV_bool, renV_int, renV_string, renV_nilFunc, renV_nilIface, renV_nilPtr, renV_ptr, renV_nilSl, renV_sl, renV_iface, renV_agg, renV_tuple, renV_func, renFn, idx_nil, idx_cons, idxC_t, idxC_f, Option.map_some, Option.map_none, fm_ptr, ptrV_map]
theorem pickN (es eb : List (Nat × Nat)) : optAll (pickB (LN off n c X cs own es eb) (idx [3, 4, 5, 0, 6, 7, 2, 8, 9])) [3, 4, 5, 0, 6, 7, 2, 8, 9] = some (HR0 off n c cs own es eb) := by
  simp (maxSteps := 1000000) (disch := first | omega | decide | assumption | simp [scal]) [pickB, renV_map, fm_ren]
theorem askN (hc : SpC cs off n l) (hn : n ≤ 12) (es eb : List (Nat × Nat)) (M : Nat) (hi : InvR (nxB l n) n es) (hM : M < 2 ^ n) : ∃ es' wr, InvR (nxB l n) n es' ∧ ((wr = [] ∧ es' = es) ∨ wr = [4]) ∧
    callH LL 60 [pp 3, wv M] (LN off n c X cs own es eb) = some ⟨iv (gR (nxB l n) n M : Nat), LN off n c X cs own es' eb, [3, 4, 5, 0, 6, 7, 2, 8, 9], wr⟩ := by
  obtain ⟨es', ws, i1, i2, i3⟩ := get_ok off n c (own := own) hc hn eb (cntU n M) es M hi hM rfl
  rcases i2 with ⟨rfl, rfl⟩ | rfl
  · exact ⟨es', [], i1, .inl ⟨rfl, rfl⟩, callH_lit (by intro _; first | trivial | rfl) rfl (rchN ..) rfl (pickN ..) i3 (by simp [mergeB, renV_int, dep, optAll, gR]) (by simp)⟩
  · exact ⟨es', [4], i1, .inr rfl, callH_lit (by intro _; first | trivial | rfl) rfl (rchN ..) rfl (pickN ..) i3 (by simp [mergeB, renV_int, dep, optAll, fm_ren, gR]) (by simp)⟩
theorem l25i (off2 m c2 : Nat) {cs2 : List Value} {own2 : Bool} (hX : X = .cells cs2 1 true own2) (hc : SpC cs off n l) (hn : n ≤ 12) (eb : List (Nat × Nat)) (M : Nat) (hM : M < 2 ^ n) (d p : Nat) (hd : d ≤ n) (B : Nat) (hB : B = 8916100448256) :
    ∀ (q i a : Nat) (es : List (Nat × Nat)), i + q = d → InvR (nxB l n) n es → a + q * B ≤ 4000000000000000 →
    ∃ es', InvR (nxB l n) n es' ∧ lpB Try.prog LL ⟨25, 59, 2, none⟩ n25_39 n25_40 ⟨[(11, iv d), (32, iv d), (33, iv i), (6, pp 2), (8, iv a), (9, wv M), (26, sl 1 off2 m c2), (27, iv m), (28, iv p)], LN off n c X cs own es eb, []⟩ =
      some (.exit 2, ⟨[(11, iv d), (6, pp 2), (8, iv (cS (fN (nxB l n) n M) q i a : Nat)), (9, wv M), (26, sl 1 off2 m c2), (27, iv m), (28, iv p)], LN off n c X cs own es' eb, []⟩) := by
  have hM32 : M < 2 ^ 32 := Nat.lt_of_lt_of_le hM (Nat.pow_le_pow_right (by decide) (by omega))
  intro q
  induction q with
  | zero =>
    intro i a es hi hv hb
    obtain rfl : i = d := by omega
    refine ⟨es, hv, ?_⟩
    simp only [cS]
    subst hX
    rw [lpB_eq]
    simp (maxSteps := 1000000) (disch := first | omega | decide | assumption | simp [scal]) [lenA_sl lk_24, o_indexAddrS es_24, loadA_eq ia_3, o_fieldAddr fa_90_0 (by decide), loadA_eq ia_78, o_fieldAddr fa_90_1 (by decide), loadA_eq ia_88, fm_ptr, fm_ren, ptrV_map, renV_map]
  | succ q ih =>
    intro i a es hi hv hb
    have e0 : i < d := by omega
    have e1 : (i : Int) < d := by omega
    have a1 := fun bx => k53 0 off n c (h := .cells cs 2 true own :: bx) rfl hc (by omega) M i hM32 (by omega)
    have a2 := k54 M i hM32 (by omega)
    rw [Nat.add_mul] at hb
    cases h : nxB l n M i
    · rw [h] at a1
      have hf : fN (nxB l n) n M i = 0 := by simp only [fN, h, cond_false]
      obtain ⟨es', i1, i2⟩ := ih (i + 1) (a + 0) es (by omega) hv (by omega)
      refine ⟨es', i1, ?_⟩
      simp only [cS, hf]
      simp only [cast1, Nat.add_zero] at i2 ⊢
      generalize cS (fN (nxB l n) n M) q (i + 1) a = Z at *
      clear ih
      subst hX
      rw [lpB_eq]
      simp (maxSteps := 1000000) (disch := first | omega | decide | assumption | simp [scal]) [lenA_sl lk_24, o_indexAddrS es_24, loadA_eq ia_3, o_fieldAddr fa_90_0 (by decide), loadA_eq ia_78, o_fieldAddr fa_90_1 (by decide), loadA_eq ia_88, e0, e1, a1, fm_ptr, fm_ren, ptrV_map, renV_map, i2]
    · rw [h] at a1
      have h2 : M ||| 2 ^ i < 2 ^ n := Nat.or_lt_two_pow hM (Nat.pow_lt_pow_right (by decide) (by omega))
      obtain ⟨es1, wr1, g1, g2, g3⟩ := askN off n c (own := own) X hc hn es eb (M ||| 2 ^ i) hv h2
      have hf : fN (nxB l n) n M i = gR (nxB l n) n (M ||| 2 ^ i) := by simp only [fN, h, cond_true]
      have hle : gR (nxB l n) n (M ||| 2 ^ i) ≤ B := by rw [hB]; exact gR_le hn
      obtain ⟨es', i1, i2⟩ := ih (i + 1) (a + gR (nxB l n) n (M ||| 2 ^ i)) es1 (by omega) g1 (by omega)
      refine ⟨es', i1, ?_⟩
      simp only [cS, hf]
      simp only [cast1] at i2 ⊢
      generalize gR (nxB l n) n (M ||| 2 ^ i) = v at *
      generalize M ||| 2 ^ i = M2 at *
      have hwrap : IntKind.i64.wrap ((a : Int) + (v : Int)) = ((a + v : Nat) : Int) := by rw [wrap_i64_id (by omega) (by omega)]; rfl
      generalize cS (fN (nxB l n) n M) q (i + 1) (a + v) = Z at *
      generalize ((a + v : Nat) : Int) = av at *
      clear ih hf h2
      subst hX
      rw [lpB_eq]
      rcases g2 with ⟨rfl, rfl⟩ | rfl
      · simp (maxSteps := 1000000) (disch := first | omega | decide | assumption | simp [scal]) [lenA_sl lk_24, o_indexAddrS es_24, loadA_eq ia_3, o_fieldAddr fa_90_0 (by decide), loadA_eq ia_78, o_fieldAddr fa_90_1 (by decide), loadA_eq ia_88, e0, e1, a1, a2, g3, hwrap, fm_ptr, fm_ren, ptrV_map, renV_map, i2]
      · simp (maxSteps := 1000000) (disch := first | omega | decide | assumption | simp [scal]) [lenA_sl lk_24, o_indexAddrS es_24, loadA_eq ia_3, o_fieldAddr fa_90_0 (by decide), loadA_eq ia_78, o_fieldAddr fa_90_1 (by decide), loadA_eq ia_88, e0, e1, a1, a2, g3, hwrap, fm_ptr, fm_ren, ptrV_map, renV_map, i2]
end
end Go.Proofs.Ytfccmddkblbeoaa.rk
namespace Go.Proofs.Ytfccmddkblbeoaa.rk
open Go.GE
set_option linter.unusedVariables false
set_option linter.unusedSimpArgs false
set_option linter.unusedSectionVars false
set_option maxRecDepth 100000
set_option maxHeartbeats 4000000
attribute [local simp] runOps_nil runOps_cons runOpsF_nil runOpsF_cons fstS_some fstF_some opStep_eq want_none oStep_true oStep_false fin_pure fin_read fin_alloc fin_write storeB wrN cellV addWr o_move o_assign o_pick o_alloc o_box o_load o_store o_nilCheck o_bin o_un o_extract o_callV o_callB o_callI callV_f callV_y callV_fc o_makeFunc partsA Instr.fill builtin_len builtin_max2 bin_add bin_sub bin_mul bin_quo bin_rem bin_lss bin_leq bin_gtr bin_geq bin_eql bin_neq un_neg un_not bin_shr bin_shl wrap_u64_id opd opds optAll putO nbeq nblt constOk isC ops sub cl cr co bodyOf thenS_normal thenS_ret thenS_exit thenS_goto afterN_normal afterN_ret afterN_exit afterN_goto condS_true condS_false blockS_normal blockS_ret blockS_exit blockS_goto headS normS normK_eq fixS_nil fixS_cons fix1 fixV emptyB keepO_nil keepO_cons roundC_normal roundC_exit roundC_ret roundC_goto sweep_eq sweepD rnm pickR pickW rootsB ptrT renT ptrFn renFn ptrB_flat ptrB_non renB_flat renB_non plainS_some drawS_some fpsOk disj unord range' dropTo enumT undef wrap_i64_id Value.cells mkCells ptrTo scal cellsAt rdN endS_ret resultsA Option.bind_some tupV finish reachN dep ptrL_eq ptrL renL_eq renL ptrV_bool ptrV_int ptrV_string ptrV_nilFunc ptrV_nilIface ptrV_nilPtr ptrV_ptr ptrV_nilSl ptrV_sl ptrV_iface ptrV_agg ptrV_tuple ptrV_func renV_bool renV_int renV_string renV_nilFunc renV_nilIface renV_nilPtr renV_ptr renV_nilSl renV_sl renV_iface renV_agg renV_tuple renV_func gotoS_goto gotoS_normal gotoS_exit gotoS_ret skip_seq sliceE bnd bndHi intOf optOpd keepT_nil keepT_cons keepC_t keepC_f lk_nil lk_cons lkC_t lkC_f has_nil has_cons hasC_t hasC_f rep_nil rep_cons repC_t repC_f put_eq putC_t putC_f mem_nil mem_cons memC_t memC_f idx_nil idx_cons idxC_t idxC_f reach_nil reachP_cons reachQ_t reachQ_f ptrB_dead renB_dead ins_eq
attribute [local simp] n25_1s n25_3s n25_6s n25_8s n25_9s n25_7s n25_5s n25_12s n25_15s n25_16s n25_14s n25_17s n25_13s n25_11s n25_19s n25_22s n25_26s n25_29s n25_30s n25_28s n25_34s n25_37s n25_41s n25_44s n25_45s n25_43s n25_49s n25_51s n25_53s n25_54s n25_52s n25_50s n25_48s n25_47s n25_55s n25_46s n25_42s n25_40s n25_39s n25_39g n25_38s n25_36s n25_56s n25_35s n25_33s n25_32s n25_57s n25_31s n25_27s n25_25s n25_24s n25_24g n25_23s n25_21s n25_59s n25_60s n25_58s n25_20s n25_18s n25_10s n25_4s n25_2s n25_0s Try.f25
/-- what Number answers -/
def numE (l : Nat → Int × Int) (n : Nat) (o : Nat → Int) (m : Nat) : Int := if cntE l n = 0 then posS l n o m else cntE l n
def numV (l : Nat → Int × Int) (n : Nat) (o : Nat → Int) (m : Nat) : Nat := if numE l n o m = 0 then nmO (nxB l n) n o n 0 0 0 else 0
theorem pos_ok {l : Nat → Int × Int} {n : Nat} {o : Nat → Int} {m : Nat} (h : posS l n o m = 0) : m = n ∧ ∀ j, j < m → 0 ≤ o j ∧ o j < n := by
  unfold posS at h
  by_cases h1 : ordS l n o m = 0
  · exact ⟨(ord_ok h1).1, (ord_ok h1).2.2⟩
  · rw [if_pos h1] at h; exact absurd h h1
section
variable (off n c off2 m c2 : Nat) {cs cs2 : List Value} {own own2 : Bool} {l : Nat → Int × Int} {o : Nat → Int}
theorem l25 (hc : SpC cs off n l) (hc2 : InC cs2 off2 m o) (hn : n ≤ 12) (ho : ∀ j, j < m → 0 ≤ o j ∧ o j < n) (hm : m ≤ 60) (eb : List (Nat × Nat)) (B : Nat) (hB : B = 8916100448256) :
    ∀ (q p M a : Nat) (es : List (Nat × Nat)), p + q = m → M < 2 ^ n → InvR (nxB l n) n es → a + q * (12 * B) ≤ 4000000000000000 →
    lpB Try.prog LL ⟨25, 59, 2, none⟩ n25_24 n25_25 ⟨[(6, pp 2), (8, iv a), (9, wv M), (26, sl 1 off2 m c2), (27, iv m), (28, iv p)], LN off n c (.cells cs2 1 true own2) cs own es eb, []⟩ =
      some (.exit 0, ⟨[(8, iv (nmO (nxB l n) n o q p M a : Nat))], [.cells cs 2 true own, .cells cs2 1 true own2], []⟩) := by
  intro q
  induction q with
  | zero =>
    intro p M a es hp hM hv hb
    obtain rfl : p = m := by omega
    simp only [nmO]
    rw [lpB_eq]
    simp (maxSteps := 1000000) (disch := first | omega | decide | assumption | simp [scal]) [lenA_sl lk_24, o_indexAddrS es_24, loadA_eq ia_3, o_fieldAddr fa_90_0 (by decide), loadA_eq ia_78, o_fieldAddr fa_90_1 (by decide), loadA_eq ia_88, fm_ptr, fm_ren, ptrV_map, renV_map]
  | succ q ih =>
    intro p M a es hp hM hv hb
    have e0 : p < m := by omega
    have e1 : (p : Int) < m := by omega
    have hM32 : M < 2 ^ 32 := Nat.lt_of_lt_of_le hM (Nat.pow_le_pow_right (by decide) (by omega))
    have p1 := hc2 p e0
    obtain ⟨o0, o1⟩ := ho p e0
    obtain ⟨d, hd⟩ : ∃ d : Nat, o p = (d : Int) := ⟨(o p).toNat, by omega⟩
    rw [hd] at p1 o1
    have hdn : d < n := by omega
    have htn : (o p).toNat = d := by omega
    have hcs : cS (fN (nxB l n) n M) d 0 a ≤ a + d * B := cS_le (fun i => by rw [hB]; exact fN_le hn i) d 0 a
    have hdB : d * B ≤ 12 * B := Nat.mul_le_mul (by omega) (Nat.le_refl _)
    rw [Nat.add_mul] at hb
    obtain ⟨es1, i1, i2⟩ := l25i off n c (own := own) (.cells cs2 1 true own2) off2 m c2 rfl hc hn eb M hM d p (by omega) B hB d 0 a es (by omega) hv (by omega)
    have h2 : M ||| 2 ^ d < 2 ^ n := Nat.or_lt_two_pow hM (Nat.pow_lt_pow_right (by decide) hdn)
    have this := ih (p + 1) (M ||| 2 ^ d) (cS (fN (nxB l n) n M) d 0 a) es1 (by omega) h2 i1 (by omega)
    have a2 := k54 M d hM32 (by omega)
    simp only [nmO, htn]
    generalize cS (fN (nxB l n) n M) d 0 a = Z at *
    generalize nmO (nxB l n) n o q (p + 1) (M ||| 2 ^ d) Z = Y at *
    generalize M ||| 2 ^ d = M2 at *
    simp only [cast1, Int.natCast_zero] at i2 this
    clear ih hB
    rw [lpB_eq]
    simp (maxSteps := 1000000) (disch := first | omega | decide | assumption | simp [scal]) [lenA_sl lk_24, o_indexAddrS es_24, loadA_eq ia_3, o_fieldAddr fa_90_0 (by decide), loadA_eq ia_78, o_fieldAddr fa_90_1 (by decide), loadA_eq ia_88, e0, e1, p1, a2, fm_ptr, fm_ren, ptrV_map, renV_map, i2, this]
end
section
variable (b off n c b2 off2 m c2 : Nat) {cs cs2 : List Value} {own own2 : Bool} {l : Nat → Int × Int} {o : Nat → Int} {h : List Blk}
  (hb : h[b]? = some (.cells cs 2 true own)) (hb2 : h[b2]? = some (.cells cs2 1 true own2)) (hne : b ≠ b2) (hc : SpC cs off n l) (hc2 : InC cs2 off2 m o)
include hb hb2 hne hc hc2
theorem k25 (hn : n ≤ 60) (hm : m ≤ 60) : callH LL 25 [sl b off n c, sl b2 off2 m c2] h = some ⟨.tuple #[iv (numV l n o m : Nat), iv (numE l n o m)], h, [b, b2], []⟩ := by
  refine callH_2 rfl hb hb2 hne noIdB_flat noIdB_flat (so_ren hne rfl) (go (by decide) ?_) fun _ => rfl
  have a59 := k59' off n c (own := own) hc hn (.cells cs2 1 true own2)
  have a37 := fun bx => k37 0 off n c 1 off2 m c2 (h := .cells cs 2 true own :: .cells cs2 1 true own2 :: bx) rfl rfl (by decide) hc hc2 hn
  rw [run25 _ _ _ (by simp)]
  unfold numV
  by_cases h1 : cntE l n = 0
  · have hE : numE l n o m = posS l n o m := by unfold numE; rw [if_pos h1]
    rw [if_pos h1] at a59
    rw [hE]
    by_cases h2 : posS l n o m = 0
    · obtain ⟨g1, g2⟩ := pos_ok h2
      subst g1
      obtain ⟨_, n12, n1⟩ := cntE_ok h1
      have lp := l25 off m c off2 m c2 (own := own) (own2 := own2) hc hc2 n12 g2 hn [(0, 1)] 8916100448256 rfl m 0 0 0 [(2 ^ m - 1, 1)] (by omega) (Nat.two_pow_pos m) inv0 (by omega)
      rw [if_pos h2, h2]
      rw [h2] at a37
      generalize nmO (nxB l m) m o m 0 0 0 = Z at *
      simp only [Int.natCast_zero] at lp
      rw [show wv 0 = .int .u32 0 from rfl] at lp
      simp (maxSteps := 1000000) (disch := first | omega | decide | assumption | simp [scal]) [lenA_sl lk_24, o_indexAddrS es_24, loadA_eq ia_3, o_fieldAddr fa_90_0 (by decide), loadA_eq ia_78, o_fieldAddr fa_90_1 (by decide), loadA_eq ia_88, a59, a37, lp, fm_ptr, fm_ren, ptrV_map, renV_map]
    · rw [if_neg h2]
      simp (maxSteps := 1000000) (disch := first | omega | decide | assumption | simp [scal]) [lenA_sl lk_24, o_indexAddrS es_24, loadA_eq ia_3, o_fieldAddr fa_90_0 (by decide), loadA_eq ia_78, o_fieldAddr fa_90_1 (by decide), loadA_eq ia_88, a59, a37, h2, fm_ptr, fm_ren, ptrV_map, renV_map]
  · have hE : numE l n o m = cntE l n := by unfold numE; rw [if_neg h1]
    rw [if_neg h1] at a59
    rw [hE, if_neg h1]
    simp (maxSteps := 1000000) (disch := first | omega | decide | assumption | simp [scal]) [lenA_sl lk_24, o_indexAddrS es_24, loadA_eq ia_3, o_fieldAddr fa_90_0 (by decide), loadA_eq ia_78, o_fieldAddr fa_90_1 (by decide), loadA_eq ia_88, a59, h1]
end
end Go.Proofs.Ytfccmddkblbeoaa.rk
namespace Go.Proofs.Ytfccmddkblbeoaa.rk
open Go.GE
set_option linter.unusedVariables false
set_option linter.unusedSimpArgs false
set_option linter.unusedSectionVars false
set_option maxRecDepth 100000
set_option maxHeartbeats 4000000
attribute [local simp] runOps_nil runOps_cons runOpsF_nil runOpsF_cons fstS_some fstF_some opStep_eq want_none oStep_true oStep_false fin_pure fin_read fin_alloc fin_write storeB wrN cellV addWr o_move o_assign o_pick o_alloc o_box o_load o_store o_nilCheck o_bin o_un o_extract o_callV o_callB o_callI callV_f callV_y callV_fc o_makeFunc partsA Instr.fill builtin_len builtin_max2 bin_add bin_sub bin_mul bin_quo bin_rem bin_lss bin_leq bin_gtr bin_geq bin_eql bin_neq un_neg un_not bin_shr bin_shl wrap_u64_id opd opds optAll putO nbeq nblt constOk isC ops sub cl cr co bodyOf thenS_normal thenS_ret thenS_exit thenS_goto afterN_normal afterN_ret afterN_exit afterN_goto condS_true condS_false blockS_normal blockS_ret blockS_exit blockS_goto headS normS normK_eq fixS_nil fixS_cons fix1 fixV emptyB keepO_nil keepO_cons roundC_normal roundC_exit roundC_ret roundC_goto sweep_eq sweepD rnm pickR pickW rootsB ptrT renT ptrFn renFn ptrB_flat ptrB_non renB_flat renB_non plainS_some drawS_some fpsOk disj unord range' dropTo enumT undef wrap_i64_id Value.cells mkCells ptrTo scal cellsAt rdN endS_ret resultsA Option.bind_some tupV finish reachN dep ptrL_eq ptrL renL_eq renL ptrV_bool ptrV_int ptrV_string ptrV_nilFunc ptrV_nilIface ptrV_nilPtr ptrV_ptr ptrV_nilSl ptrV_sl ptrV_iface ptrV_agg ptrV_tuple ptrV_func renV_bool renV_int renV_string renV_nilFunc renV_nilIface renV_nilPtr renV_ptr renV_nilSl renV_sl renV_iface renV_agg renV_tuple renV_func gotoS_goto gotoS_normal gotoS_exit gotoS_ret skip_seq sliceE bnd bndHi intOf optOpd keepT_nil keepT_cons keepC_t keepC_f lk_nil lk_cons lkC_t lkC_f has_nil has_cons hasC_t hasC_f rep_nil rep_cons repC_t repC_f put_eq putC_t putC_f mem_nil mem_cons memC_t memC_f idx_nil idx_cons idxC_t idxC_f reach_nil reachP_cons reachQ_t reachQ_f ptrB_dead renB_dead ins_eq
attribute [local simp] n61_1s n61_3s n61_6s n61_8s n61_9s n61_7s n61_5s n61_11s n61_12s n61_10s n61_4s n61_2s n61_0s Try.f61 n24_1s n24_3s n24_6s n24_9s n24_10s n24_8s n24_11s n24_7s n24_5s n24_13s n24_14s n24_12s n24_4s n24_2s n24_0s Try.f24 n26_1s n26_3s n26_6s n26_8s n26_9s n26_7s n26_5s n26_12s n26_15s n26_16s n26_14s n26_17s n26_13s n26_11s n26_19s n26_21s n26_24s n26_29s n26_31s n26_32s n26_30s n26_28s n26_37s n26_42s n26_44s n26_45s n26_43s n26_41s n26_49s n26_51s n26_52s n26_50s n26_48s n26_47s n26_53s n26_46s n26_40s n26_39s n26_39g n26_38s n26_36s n26_54s n26_35s n26_34s n26_55s n26_33s n26_27s n26_26s n26_26g n26_25s n26_23s n26_57s n26_58s n26_56s n26_22s n26_20s n26_18s n26_10s n26_4s n26_2s n26_0s Try.f26
section
variable (b off n c : Nat) {cs : List Value} {own : Bool} {l : Nat → Int × Int} {h : List Blk} (hb : h[b]? = some (.cells cs 2 true own)) (hc : SpC cs off n l)
include hb hc
theorem k61 (hn : n ≤ 60) : callH LL 61 [sl b off n c] h = some ⟨iv (cntE l n), h, [b], []⟩ := by
  refine callH_1 rfl hb noIdB_flat (args' := [sl 0 off n c]) (by simp [renV, dep, optAll, idx, nbeq]) (go (by decide) ?_) (fun _ => rfl)
  have a := fun bx => k50 0 off n c (h := .cells cs 2 true own :: bx) rfl hc hn
  rw [run61 _ _ _ (by simp)]
  unfold cntE
  by_cases h1 : chkS l n = 0
  · rw [if_pos h1]
    rw [h1] at a
    by_cases h2 : 12 < n
    · have h2' : (12 : Int) < n := by omega
      rw [if_pos h2]
      simp (maxSteps := 1000000) (disch := first | omega | decide | assumption | simp [scal]) [lenA_sl lk_22, want_some q61_6g2, a, h2, h2']
    · have h2' : ¬ (12 : Int) < n := by omega
      rw [if_neg h2]
      simp (maxSteps := 1000000) (disch := first | omega | decide | assumption | simp [scal]) [lenA_sl lk_22, want_some q61_6g2, a, h2, h2']
  · rw [if_neg h1]
    simp (maxSteps := 1000000) (disch := first | omega | decide | assumption | simp [scal]) [lenA_sl lk_22, want_some q61_6g2, a, h1]
end
theorem nx_ok {off n c : Nat} {cs : List Value} {own : Bool} {l : Nat → Int × Int} (hc : SpC cs off n l) (hn : n ≤ 12) : NxOK (nxB l n) n (-1) (-1) (sl 0 off n c) (.cells cs 2 true own) := by
  refine ⟨fun M i h => ?_, fun M i bx hM hi => k63 0 off n c (h := .cells cs 2 true own :: bx) rfl hc (by omega) M i hM hi⟩
  unfold nxB at h
  simp only [Bool.and_eq_true, Bool.not_eq_true'] at h
  exact h.1
section
variable (b off n c : Nat) {cs : List Value} {own : Bool} {l : Nat → Int × Int} {h : List Blk} (hb : h[b]? = some (.cells cs 2 true own)) (hc : SpC cs off n l)
include hb hc
theorem k62 (hn : n ≤ 12) : callH LL 62 [sl b off n c, iv (-1), iv (-1)] h = some ⟨sl h.length 0 (2 ^ n) (2 ^ n), h ++ [tb (gR (nxB l n) n) (2 ^ n)], [b], []⟩ := by
  have hr := r62 off n c (own := own) (-1) (-1) (nx_ok hc hn) hn
  exact callN_1 rfl hb noIdB_flat (args' := [sl 0 off n c, iv (-1), iv (-1)]) (by simp [renV, dep, optAll, idx, nbeq]) hr (by intro blk hb; simp only [List.mem_singleton] at hb; subst hb; exact noIdB_flat) (by simp [renV, dep, optAll])
theorem k24 (hn : n ≤ 60) : callH LL 24 [sl b off n c] h = some ⟨.tuple #[iv (cntV l n : Nat), iv (cntE l n)], h, [b], []⟩ := by
  refine callH_1 rfl hb noIdB_flat (args' := [sl 0 off n c]) (by simp [renV, dep, optAll, idx, nbeq]) (go (by decide) ?_) (fun _ => rfl)
  have a := fun bx => k61 0 off n c (h := .cells cs 2 true own :: bx) rfl hc hn
  rw [run24 _ _ _ (by simp)]
  unfold cntV
  by_cases h1 : cntE l n = 0
  · obtain ⟨h2, h3, h4⟩ := cntE_ok h1
    have a2 := k62 0 off n c (h := [.cells cs 2 true own]) rfl hc h3
    have hN : 1 ≤ 2 ^ n := Nat.two_pow_pos n
    have p1 := tL_get (g := gR (nxB l n) n) hN
    have ul := tL_len (g := gR (nxB l n) n) (N := 2 ^ n)
    have hv : gR (nxB l n) n 0 = cR (nxB l n) n n 0 := by unfold gR; rw [cntU_zero]
    rw [hv] at p1
    rw [if_pos h1, h1]
    rw [h1] at a
    simp only [tb] at a2
    generalize cR (nxB l n) n n 0 = Z at *
    generalize tL (gR (nxB l n) n) (2 ^ n) = U at *
    generalize 2 ^ n = N at *
    have l1 : 0 < U.length := by omega
    have l2 : (0 : Int) < N := by omega
    have l3 : 0 < N := by omega
    obtain ⟨_, p1⟩ := List.getElem?_eq_some_iff.1 p1
    simp (maxSteps := 1000000) (disch := first | omega | decide | assumption | simp [scal]) [o_indexAddrS es_24, loadA_eq ia_3, a, a2, l1, l2, l3, ul, p1]
  · rw [if_neg h1]
    simp (maxSteps := 1000000) (disch := first | omega | decide | assumption | simp [scal]) [o_indexAddrS es_24, loadA_eq ia_3, a, h1]
end
section
variable (off n c off2 m c2 : Nat) {cs cs2 : List Value} {own own2 : Bool} {l : Nat → Int × Int} {o : Nat → Int}
theorem l26i (hc : SpC cs off n l) (hc2 : InC cs2 off2 m o) (hn : n ≤ 12) (M : Nat) (hM : M < 2 ^ n) (d p : Nat) (hp : p < m) (hd : d ≤ n) (hod : o p = d) (B : Nat) (hB : B = 8916100448256) :
    ∀ (q i a : Nat), i + q = d → a + q * B ≤ 4000000000000000 →
    lpB Try.prog LL ⟨26, 59, 2, none⟩ n26_39 n26_40 ⟨[(11, iv i), (0, sl 0 off n c), (1, sl 1 off2 m c2), (7, sl 2 0 (2 ^ n) (2 ^ n)), (8, iv a), (9, iv M), (10, iv p)], [.cells cs 2 true own, .cells cs2 1 true own2, tb (gR (nxB l n) n) (2 ^ n)], []⟩ =
      some (.exit 2, ⟨[(0, sl 0 off n c), (1, sl 1 off2 m c2), (7, sl 2 0 (2 ^ n) (2 ^ n)), (8, iv (cS (fN (nxB l n) n M) q i a : Nat)), (9, iv M), (10, iv p)], [.cells cs 2 true own, .cells cs2 1 true own2, tb (gR (nxB l n) n) (2 ^ n)], []⟩) := by
  have hM32 : M < 2 ^ 32 := Nat.lt_of_lt_of_le hM (Nat.pow_le_pow_right (by decide) (by omega))
  have e2 : (p : Int) < m := by omega
  have p0 := hc2 p hp
  rw [hod] at p0
  intro q
  induction q with
  | zero =>
    intro i a hi hb
    obtain rfl : i = d := by omega
    simp only [cS, tb]
    generalize tL (gR (nxB l n) n) (2 ^ n) = U at *
    generalize 2 ^ n = N at *
    rw [lpB_eq]
    simp (maxSteps := 1000000) (disch := first | omega | decide | assumption | simp [scal]) [lenA_sl lk_24, o_indexAddrS es_24, loadA_eq ia_3, hp, e2, p0]
  | succ q ih =>
    intro i a hi hb
    have e0 : i < d := by omega
    have e1 : (i : Int) < d := by omega
    have a1 := fun bx => k63 0 off n c (h := .cells cs 2 true own :: bx) rfl hc (by omega) M i hM32 (by omega)
    rw [Nat.add_mul] at hb
    cases h : nxB l n M i
    · rw [h] at a1
      have hf : fN (nxB l n) n M i = 0 := by simp only [fN, h, cond_false]
      have this := ih (i + 1) (a + 0) (by omega) (by omega)
      simp only [cS, hf]
      simp only [cast1, Nat.add_zero, tb] at this ⊢
      generalize cS (fN (nxB l n) n M) q (i + 1) a = Z at *
      clear ih
      generalize tL (gR (nxB l n) n) (2 ^ n) = U at *
      generalize 2 ^ n = N at *
      rw [lpB_eq]
      simp (maxSteps := 1000000) (disch := first | omega | decide | assumption | simp [scal]) [lenA_sl lk_24, o_indexAddrS es_24, loadA_eq ia_3, hp, e2, p0, e0, e1, a1, this]
    · rw [h] at a1
      have h2 : M ||| 2 ^ i < 2 ^ n := Nat.or_lt_two_pow hM (Nat.pow_lt_pow_right (by decide) (by omega))
      have hf : fN (nxB l n) n M i = gR (nxB l n) n (M ||| 2 ^ i) := by simp only [fN, h, cond_true]
      have hle : gR (nxB l n) n (M ||| 2 ^ i) ≤ B := by rw [hB]; exact gR_le hn
      have this := ih (i + 1) (a + gR (nxB l n) n (M ||| 2 ^ i)) (by omega) (by omega)
      have p1 := tL_get (g := gR (nxB l n) n) h2
      have ul := tL_len (g := gR (nxB l n) n) (N := 2 ^ n)
      have s1 := shl_powi (J := i) (by omega)
      have s2 := fun cc => @bin_ori Try.prog 3 cc M (2 ^ i) (by omega) (Nat.pow_lt_pow_right (by decide) (by omega))
      simp only [cS, hf]
      simp only [cast1, tb] at this ⊢
      generalize gR (nxB l n) n (M ||| 2 ^ i) = v at *
      generalize tL (gR (nxB l n) n) (2 ^ n) = U at *
      have hwrap : IntKind.i64.wrap ((a : Int) + (v : Int)) = ((a + v : Nat) : Int) := by rw [wrap_i64_id (by omega) (by omega)]; rfl
      generalize cS (fN (nxB l n) n M) q (i + 1) (a + v) = Z at *
      generalize ((a + v : Nat) : Int) = av at *
      generalize M ||| 2 ^ i = M2 at *
      generalize ((2 ^ i : Nat) : Int) = J2 at *
      generalize 2 ^ n = N at *
      have l1 : M2 < U.length := by omega
      obtain ⟨_, p1⟩ := List.getElem?_eq_some_iff.1 p1
      clear ih hf
      rw [lpB_eq]
      simp (maxSteps := 1000000) (disch := first | omega | decide | assumption | simp [scal]) [lenA_sl lk_24, o_indexAddrS es_24, loadA_eq ia_3, hp, e2, p0, e0, e1, a1, s1, s2, l1, h2, p1, ul, hwrap, this]
theorem l26 (hc : SpC cs off n l) (hc2 : InC cs2 off2 m o) (hn : n ≤ 12) (ho : ∀ j, j < m → 0 ≤ o j ∧ o j < n) (hm : m ≤ 60) (B : Nat) (hB : B = 8916100448256) :
    ∀ (q p M a : Nat), p + q = m → M < 2 ^ n → a + q * (12 * B) ≤ 4000000000000000 →
    lpB Try.prog LL ⟨26, 59, 2, none⟩ n26_26 n26_27 ⟨[(0, sl 0 off n c), (1, sl 1 off2 m c2), (7, sl 2 0 (2 ^ n) (2 ^ n)), (8, iv a), (9, iv M), (10, iv p)], [.cells cs 2 true own, .cells cs2 1 true own2, tb (gR (nxB l n) n) (2 ^ n)], []⟩ =
      some (.exit 0, ⟨[(8, iv (nmO (nxB l n) n o q p M a : Nat))], [.cells cs 2 true own, .cells cs2 1 true own2], []⟩) := by
  intro q
  induction q with
  | zero =>
    intro p M a hp hM hb
    obtain rfl : p = m := by omega
    simp only [nmO, tb]
    generalize tL (gR (nxB l n) n) (2 ^ n) = U at *
    generalize 2 ^ n = N at *
    rw [lpB_eq]
    simp (maxSteps := 1000000) (disch := first | omega | decide | assumption | simp [scal]) [lenA_sl lk_24, o_indexAddrS es_24, loadA_eq ia_3]
  | succ q ih =>
    intro p M a hp hM hb
    have e0 : p < m := by omega
    have e1 : (p : Int) < m := by omega
    have hM32 : M < 2 ^ 32 := Nat.lt_of_lt_of_le hM (Nat.pow_le_pow_right (by decide) (by omega))
    have p1 := hc2 p e0
    obtain ⟨o0, o1⟩ := ho p e0
    obtain ⟨d, hd⟩ : ∃ d : Nat, o p = (d : Int) := ⟨(o p).toNat, by omega⟩
    rw [hd] at p1 o1
    have hdn : d < n := by omega
    have htn : (o p).toNat = d := by omega
    have hcs : cS (fN (nxB l n) n M) d 0 a ≤ a + d * B := cS_le (fun i => by rw [hB]; exact fN_le hn i) d 0 a
    have hdB : d * B ≤ 12 * B := Nat.mul_le_mul (by omega) (Nat.le_refl _)
    rw [Nat.add_mul] at hb
    have i2 := l26i off n c off2 m c2 (own := own) (own2 := own2) hc hc2 hn M hM d p e0 (by omega) hd B hB d 0 a (by omega) (by omega)
    have h2 : M ||| 2 ^ d < 2 ^ n := Nat.or_lt_two_pow hM (Nat.pow_lt_pow_right (by decide) hdn)
    have this := ih (p + 1) (M ||| 2 ^ d) (cS (fN (nxB l n) n M) d 0 a) (by omega) h2 (by omega)
    have s1 := shl_powi (J := d) (by omega)
    have s2 := fun cc => @bin_ori Try.prog 3 cc M (2 ^ d) (by omega) (Nat.pow_lt_pow_right (by decide) (by omega))
    simp only [nmO, htn]
    simp only [tb] at i2 this ⊢
    generalize cS (fN (nxB l n) n M) d 0 a = Z at *
    generalize nmO (nxB l n) n o q (p + 1) (M ||| 2 ^ d) Z = Y at *
    generalize tL (gR (nxB l n) n) (2 ^ n) = U at *
    generalize M ||| 2 ^ d = M2 at *
    generalize ((2 ^ d : Nat) : Int) = J2 at *
    generalize 2 ^ n = N at *
    simp only [cast1, Int.natCast_zero] at i2 this
    clear ih hB
    rw [lpB_eq]
    simp (maxSteps := 1000000) (disch := first | omega | decide | assumption | simp [scal]) [lenA_sl lk_24, o_indexAddrS es_24, loadA_eq ia_3, e0, e1, p1, s1, s2, i2, this]
end
section
variable (b off n c b2 off2 m c2 : Nat) {cs cs2 : List Value} {own own2 : Bool} {l : Nat → Int × Int} {o : Nat → Int} {h : List Blk}
  (hb : h[b]? = some (.cells cs 2 true own)) (hb2 : h[b2]? = some (.cells cs2 1 true own2)) (hne : b ≠ b2) (hc : SpC cs off n l) (hc2 : InC cs2 off2 m o)
include hb hb2 hne hc hc2
theorem k26 (hn : n ≤ 60) (hm : m ≤ 60) : callH LL 26 [sl b off n c, sl b2 off2 m c2] h = some ⟨.tuple #[iv (numV l n o m : Nat), iv (numE l n o m)], h, [b, b2], []⟩ := by
  refine callH_2 rfl hb hb2 hne noIdB_flat noIdB_flat (so_ren hne rfl) (go (by decide) ?_) fun _ => rfl
  have a61 := fun bx => k61 0 off n c (h := .cells cs 2 true own :: bx) rfl hc hn
  have a49 := fun bx => k49 0 off n c 1 off2 m c2 (h := .cells cs 2 true own :: .cells cs2 1 true own2 :: bx) rfl rfl (by decide) hc hc2 hn
  rw [run26 _ _ _ (by simp)]
  unfold numV
  by_cases h1 : cntE l n = 0
  · have hE : numE l n o m = posS l n o m := by unfold numE; rw [if_pos h1]
    rw [h1] at a61
    rw [hE]
    by_cases h2 : posS l n o m = 0
    · obtain ⟨g1, g2⟩ := pos_ok h2
      subst g1
      obtain ⟨_, n12, n1⟩ := cntE_ok h1
      have a62 := k62 0 off m c (h := [.cells cs 2 true own, .cells cs2 1 true own2]) rfl hc n12
      have lp := l26 off m c off2 m c2 (own := own) (own2 := own2) hc hc2 n12 g2 hn 8916100448256 rfl m 0 0 0 (by omega) (Nat.two_pow_pos m) (by omega)
      rw [if_pos h2, h2]
      rw [h2] at a49
      generalize nmO (nxB l m) m o m 0 0 0 = Z at *
      simp only [Int.natCast_zero, tb] at lp a62
      generalize tL (gR (nxB l m) m) (2 ^ m) = U at *
      generalize 2 ^ m = N at *
      simp (maxSteps := 1000000) (disch := first | omega | decide | assumption | simp [scal]) [lenA_sl lk_24, o_indexAddrS es_24, loadA_eq ia_3, a61, a49, a62, lp]
    · rw [if_neg h2]
      simp (maxSteps := 1000000) (disch := first | omega | decide | assumption | simp [scal]) [lenA_sl lk_24, o_indexAddrS es_24, loadA_eq ia_3, a61, a49, h2]
  · have hE : numE l n o m = cntE l n := by unfold numE; rw [if_neg h1]
    rw [hE, if_neg h1]
    simp (maxSteps := 1000000) (disch := first | omega | decide | assumption | simp [scal]) [lenA_sl lk_24, o_indexAddrS es_24, loadA_eq ia_3, a61, h1]
end
end Go.Proofs.Ytfccmddkblbeoaa.rk
namespace Go.Proofs.Ytfccmddkblbeoaa.rk
open Go.GE
set_option linter.unusedVariables false
set_option linter.unusedSimpArgs false
set_option linter.unusedSectionVars false
set_option maxRecDepth 100000
set_option maxHeartbeats 4000000
attribute [local simp] runOps_nil runOps_cons runOpsF_nil runOpsF_cons fstS_some fstF_some opStep_eq want_none oStep_true oStep_false fin_pure fin_read fin_alloc fin_write storeB wrN cellV addWr o_move o_assign o_pick o_alloc o_box o_load o_store o_nilCheck o_bin o_un o_extract o_callV o_callB o_callI callV_f callV_y callV_fc o_makeFunc partsA Instr.fill builtin_len builtin_max2 bin_add bin_sub bin_mul bin_quo bin_rem bin_lss bin_leq bin_gtr bin_geq bin_eql bin_neq un_neg un_not bin_shr bin_shl wrap_u64_id opd opds optAll putO nbeq nblt constOk isC ops sub cl cr co bodyOf thenS_normal thenS_ret thenS_exit thenS_goto afterN_normal afterN_ret afterN_exit afterN_goto condS_true condS_false blockS_normal blockS_ret blockS_exit blockS_goto headS normS normK_eq fixS_nil fixS_cons fix1 fixV emptyB keepO_nil keepO_cons roundC_normal roundC_exit roundC_ret roundC_goto sweep_eq sweepD rnm pickR pickW rootsB ptrT renT ptrFn renFn ptrB_flat ptrB_non renB_flat renB_non plainS_some drawS_some fpsOk disj unord range' dropTo enumT undef wrap_i64_id Value.cells mkCells ptrTo scal cellsAt rdN endS_ret resultsA Option.bind_some tupV finish reachN dep ptrL_eq ptrL renL_eq renL ptrV_bool ptrV_int ptrV_string ptrV_nilFunc ptrV_nilIface ptrV_nilPtr ptrV_ptr ptrV_nilSl ptrV_sl ptrV_iface ptrV_agg ptrV_tuple ptrV_func renV_bool renV_int renV_string renV_nilFunc renV_nilIface renV_nilPtr renV_ptr renV_nilSl renV_sl renV_iface renV_agg renV_tuple renV_func gotoS_goto gotoS_normal gotoS_exit gotoS_ret skip_seq sliceE bnd bndHi intOf optOpd keepT_nil keepT_cons keepC_t keepC_f lk_nil lk_cons lkC_t lkC_f has_nil has_cons hasC_t hasC_f rep_nil rep_cons repC_t repC_f put_eq putC_t putC_f mem_nil mem_cons memC_t memC_f idx_nil idx_cons idxC_t idxC_f reach_nil reachP_cons reachQ_t reachQ_f ptrB_dead renB_dead ins_eq
attribute [local simp] n27_1s n27_3s n27_7s n27_10s n27_11s n27_9s n27_13s n27_16s n27_17s n27_15s n27_18s n27_14s n27_12s n27_8s n27_6s n27_5s n27_20s n27_22s n27_25s n27_30s n27_32s n27_33s n27_31s n27_29s n27_38s n27_40s n27_41s n27_39s n27_37s n27_44s n27_46s n27_49s n27_50s n27_48s n27_51s n27_47s n27_45s n27_43s n27_53s n27_54s n27_52s n27_42s n27_36s n27_35s n27_55s n27_34s n27_28s n27_27s n27_27g n27_26s n27_24s n27_57s n27_58s n27_56s n27_23s n27_21s n27_19s n27_4s n27_2s n27_0s Try.f27
def atI (nx : Nat → Nat → Bool) (n M : Nat) : Nat → Nat → Nat → Option (Nat × Nat)
  | 0, _, _ => none
  | k + 1, i, v => if nx M i = true then (if v < gR nx n (M ||| 2 ^ i) then some (i, v) else atI nx n M k (i + 1) (v - gR nx n (M ||| 2 ^ i))) else atI nx n M k (i + 1) v
def atO (nx : Nat → Nat → Bool) (n : Nat) : Nat → Nat → Nat → List Nat
  | 0, _, _ => []
  | q + 1, M, v => match atI nx n M n 0 v with
    | some (i, v') => i :: atO nx n q (M ||| 2 ^ i) v'
    | none => []
theorem cS_add {f : Nat → Nat} : ∀ k i a, cS f k i a = a + cS f k i 0 := by
  intro k
  induction k with
  | zero => intro i a; simp [cS]
  | succ k ih => intro i a; simp only [cS]; rw [ih (i + 1) (a + f i), ih (i + 1) (0 + f i)]; omega
theorem cS_congr {f g : Nat → Nat} : ∀ k i a, (∀ j, i ≤ j → j < i + k → f j = g j) → cS f k i a = cS g k i a := by
  intro k
  induction k with
  | zero => intro i a _; rfl
  | succ k ih =>
    intro i a h
    simp only [cS]
    rw [h i (by omega) (by omega)]
    exact ih _ _ fun j h1 h2 => h j (by omega) (by omega)
theorem atI_some {nx : Nat → Nat → Bool} {n M : Nat} : ∀ k i v, v < cS (fN nx n M) k i 0 → ∃ x v', atI nx n M k i v = some (x, v') ∧ i ≤ x ∧ x < i + k ∧ nx M x = true ∧ v' < gR nx n (M ||| 2 ^ x) := by
  intro k
  induction k with
  | zero => intro i v h; simp [cS] at h
  | succ k ih =>
    intro i v h
    simp only [cS] at h
    rw [cS_add] at h
    unfold atI
    cases hx : nx M i
    · have hf : fN nx n M i = 0 := by simp only [fN, hx, cond_false]
      rw [hf] at h
      obtain ⟨x, v', h1, h2, h3, h4⟩ := ih (i + 1) v (by omega)
      rw [if_neg (by decide)]
      exact ⟨x, v', h1, by omega, by omega, h4⟩
    · have hf : fN nx n M i = gR nx n (M ||| 2 ^ i) := by simp only [fN, hx, cond_true]
      rw [hf] at h
      rw [if_pos rfl]
      by_cases hv : v < gR nx n (M ||| 2 ^ i)
      · rw [if_pos hv]; exact ⟨i, v, rfl, by omega, by omega, hx, hv⟩
      · rw [if_neg hv]
        obtain ⟨x, v', h1, h2, h3, h4⟩ := ih (i + 1) (v - gR nx n (M ||| 2 ^ i)) (by omega)
        exact ⟨x, v', h1, by omega, by omega, h4⟩
theorem gR_sum {nx : Nat → Nat → Bool} (hnx : ∀ M i, nx M i = true → M.testBit i = false) {n M q : Nat} (h : cntU n M = q + 1) : gR nx n M = cS (fN nx n M) n 0 0 := by
  have e : gR nx n M = cS (cF nx n q M) n 0 0 := by unfold gR; rw [h]; rfl
  rw [e]
  refine cS_congr n 0 0 fun j _ hj => ?_
  unfold cF fN
  cases hx : nx M j
  · rfl
  · have := cntU_lt (hnx M j hx) n (by omega)
    simp only [cond_true]
    unfold gR
    rw [show cntU n (M ||| 2 ^ j) = q by omega]
theorem nxB_bit {l : Nat → Int × Int} {n M i : Nat} (h : nxB l n M i = true) : M.testBit i = false := by
  unfold nxB at h
  simp only [Bool.and_eq_true, Bool.not_eq_true'] at h
  exact h.1
section
variable (off n c : Nat) {cs : List Value} {own : Bool} {l : Nat → Int × Int}
abbrev LA (cs : List Value) (own : Bool) (es eb : List (Nat × Nat)) (rest : List Blk) : List Blk := .cells cs 2 true own :: .cells [sl 0 off n c, pp 2, pp 7] 1 false true :: .cells [.map (some 3), .func (.func 80) #[] #[pp 4, pp 5, pp 6]] 1 false true :: fmB es ::
  .cells [sl 0 off n c] 1 false true :: mayB :: .cells [pp 1] 1 false true :: .cells [.map (some 8), .func (.func 81) #[] #[pp 4, pp 6]] 1 false true :: fmB eb :: rest
theorem askL (hc : SpC cs off n l) (hn : n ≤ 12) (es eb : List (Nat × Nat)) (rest : List Blk) (M : Nat) (hi : InvR (nxB l n) n es) (hM : M < 2 ^ n) : ∃ es' wr, InvR (nxB l n) n es' ∧ ((wr = [] ∧ es' = es) ∨ wr = [3]) ∧
    callH LL 60 [pp 2, wv M] (LA off n c cs own es eb rest) = some ⟨iv (gR (nxB l n) n M : Nat), LA off n c cs own es' eb rest, [2, 3, 4, 0, 5, 6, 1, 7, 8], wr⟩ := askA off n c hc hn es eb rest M hi hM
theorem l27 (hc : SpC cs off n l) (hn : n ≤ 12) (eb : List (Nat × Nat)) : ∀ (q : Nat) (O : List Nat) (M v : Nat) (es : List (Nat × Nat)), O.length + q = n → cntU n M = q → v < gR (nxB l n) n M → M < 2 ^ n → InvR (nxB l n) n es →
    lpB Try.prog LL ⟨27, 68, 1, none⟩ n27_27 n27_28 ⟨[(0, sl 0 off n c), (1, iv v), (6, pp 1), (8, sl 9 0 O.length O.length), (9, wv M), (10, iv 0)], LA off n c cs own es eb [nB O], []⟩ =
      some (.exit 1, ⟨[(8, sl 1 0 n n)], [.cells cs 2 true own, nB (O ++ atO (nxB l n) n q M v)], []⟩) := by
  intro q
  induction q with
  | zero =>
    intro O M v es hO hM hv h2 hi
    obtain rfl : O.length = n := by omega
    simp only [atO, List.append_nil, nB]
    generalize nm O = N at *
    generalize O.length = m at *
    rw [lpB_eq]
    simp (maxSteps := 1000000) (disch := first | omega | decide | assumption | simp [scal]) [o_fieldAddr fa_90_1 (by decide), loadA_eq ia_88, lenA_sl lk_24, lenA_sl lk_22, o_fieldAddr fa_90_0 (by decide), loadA_eq ia_78, o_indexAddrS es_24, ze_24, o_buildSlice es_24 ze_24 (by decide) ba_24_1, ap_24, builtin_append ni_24, fm_ptr, fm_ren, ptrV_map, renV_map]
  | succ q ih =>
    intro O M v es hO hM hv h2 hi
    have e1 : (O.length : Int) < n := by omega
    have hM32 : M < 2 ^ 32 := Nat.lt_of_lt_of_le h2 (Nat.pow_le_pow_right (by decide) (by omega))
    have inn : ∀ (k i v : Nat) (es : List (Nat × Nat)), i + k = n → v < cS (fN (nxB l n) n M) k i 0 → v < 8916100448257 → InvR (nxB l n) n es →
        lpB Try.prog LL ⟨27, 68, 1, none⟩ n27_27 n27_28 ⟨[(0, sl 0 off n c), (1, iv v), (6, pp 1), (8, sl 9 0 O.length O.length), (9, wv M), (10, iv i)], LA off n c cs own es eb [nB O], []⟩ =
          match atI (nxB l n) n M k i v with
          | none => none
          | some (x, v') => some (.exit 1, ⟨[(8, sl 1 0 n n)], [.cells cs 2 true own, nB (O ++ x :: atO (nxB l n) n q (M ||| 2 ^ x) v')], []⟩) := by
      intro k
      induction k with
      | zero => intro i v es hk hv; simp [cS] at hv
      | succ k ik =>
        intro i v es hk hv hvb hi
        have i0 : i < n := by omega
        have a1 := fun bx => k53 0 off n c (h := .cells cs 2 true own :: bx) rfl hc (by omega) M i hM32 i0
        have a2 := k54 M i hM32 (by omega)
        simp only [cS] at hv
        rw [cS_add] at hv
        unfold atI
        cases h : nxB l n M i
        · rw [h] at a1
          have hf : fN (nxB l n) n M i = 0 := by simp only [fN, h, cond_false]
          have this := ik (i + 1) v es (by omega) (by omega) hvb hi
          rw [if_neg (by decide)]
          simp only [cast1] at this
          generalize hR : (match atI (nxB l n) n M k (i + 1) v with
            | none => none
            | some (x, v') => some (Ex.exit 1, (⟨[(8, sl 1 0 n n)], [.cells cs 2 true own, nB (O ++ x :: atO (nxB l n) n q (M ||| 2 ^ x) v')], []⟩ : St))) = R at *
          clear ik ih hR
          simp only [nB] at this ⊢
          generalize nm O = N at *
          generalize O.length = m at *
          rw [lpB_eq]
          simp (maxSteps := 1000000) (disch := first | omega | decide | assumption | simp [scal]) [o_fieldAddr fa_90_1 (by decide), loadA_eq ia_88, lenA_sl lk_24, lenA_sl lk_22, o_fieldAddr fa_90_0 (by decide), loadA_eq ia_78, o_indexAddrS es_24, ze_24, o_buildSlice es_24 ze_24 (by decide) ba_24_1, ap_24, builtin_append ni_24, e1, a1, fm_ptr, fm_ren, ptrV_map, renV_map, this]
        · rw [h] at a1
          have hf : fN (nxB l n) n M i = gR (nxB l n) n (M ||| 2 ^ i) := by simp only [fN, h, cond_true]
          have hb0 := nxB_bit h
          have hcn := cntU_lt hb0 n i0
          have h3 : M ||| 2 ^ i < 2 ^ n := Nat.or_lt_two_pow h2 (Nat.pow_lt_pow_right (by decide) i0)
          obtain ⟨es1, wr1, g1, g2, g3⟩ := askL off n c (own := own) hc hn es eb [nB O] (M ||| 2 ^ i) hi h3
          have hgle : gR (nxB l n) n (M ||| 2 ^ i) ≤ 8916100448256 := gR_le hn
          rw [if_pos rfl]
          by_cases hvv : v < gR (nxB l n) n (M ||| 2 ^ i)
          · rw [if_pos hvv]
            have this := ih (O ++ [i]) (M ||| 2 ^ i) v es1 (by simp; omega) (by omega) hvv h3 g1
            have e2 : O ++ i :: atO (nxB l n) n q (M ||| 2 ^ i) v = (O ++ [i]) ++ atO (nxB l n) n q (M ||| 2 ^ i) v := by simp
            have hvv' : ¬ (gR (nxB l n) n (M ||| 2 ^ i) : Int) ≤ v := by omega
            have c1 := fun hp b c rd => app_list (h := hp) (b := b) (c := c) (k := 1) (by' := 8) (l := O.length) (cs := nm O) (new := [iv i]) (rd := rd) (by rw [nm_len]; simp) (by omega) (by omega) rfl
            simp only [e2]
            simp only [List.length_append, List.length_cons, List.length_nil, Nat.zero_add] at this
            generalize gR (nxB l n) n (M ||| 2 ^ i) = w at *
            generalize hY : (O ++ [i]) ++ atO (nxB l n) n q (M ||| 2 ^ i) v = Y at *
            generalize M ||| 2 ^ i = M2 at *
            clear ik ih hf hY e2
            simp only [nB, nm_app, nm_one] at this g3 ⊢
            generalize nm O = N at *
            generalize O.length = m at *
            rw [lpB_eq]
            rcases g2 with ⟨rfl, rfl⟩ | rfl
            · simp (maxSteps := 1000000) (disch := first | omega | decide | assumption | simp [scal]) [o_fieldAddr fa_90_1 (by decide), loadA_eq ia_88, lenA_sl lk_24, lenA_sl lk_22, o_fieldAddr fa_90_0 (by decide), loadA_eq ia_78, o_indexAddrS es_24, ze_24, o_buildSlice es_24 ze_24 (by decide) ba_24_1, ap_24, builtin_append ni_24, e1, a1, a2, g3, hvv', append_some ap_24, srcCells, c1, fm_ptr, fm_ren, ptrV_map, renV_map, this]
            · simp (maxSteps := 1000000) (disch := first | omega | decide | assumption | simp [scal]) [o_fieldAddr fa_90_1 (by decide), loadA_eq ia_88, lenA_sl lk_24, lenA_sl lk_22, o_fieldAddr fa_90_0 (by decide), loadA_eq ia_78, o_indexAddrS es_24, ze_24, o_buildSlice es_24 ze_24 (by decide) ba_24_1, ap_24, builtin_append ni_24, e1, a1, a2, g3, hvv', append_some ap_24, srcCells, c1, fm_ptr, fm_ren, ptrV_map, renV_map, this]
          · rw [if_neg hvv]
            rw [hf] at hv
            have this := ik (i + 1) (v - gR (nxB l n) n (M ||| 2 ^ i)) es1 (by omega) (by omega) (by omega) g1
            have hvv' : (gR (nxB l n) n (M ||| 2 ^ i) : Int) ≤ v := by omega
            have hw : IntKind.i64.wrap ((v : Int) - (gR (nxB l n) n (M ||| 2 ^ i) : Int)) = ((v - gR (nxB l n) n (M ||| 2 ^ i) : Nat) : Int) := by
              rw [wrap_i64_id (by omega) (by omega)]; omega
            simp only [cast1] at this
            generalize hR : (match atI (nxB l n) n M k (i + 1) (v - gR (nxB l n) n (M ||| 2 ^ i)) with
              | none => none
              | some (x, v') => some (Ex.exit 1, (⟨[(8, sl 1 0 n n)], [.cells cs 2 true own, nB (O ++ x :: atO (nxB l n) n q (M ||| 2 ^ x) v')], []⟩ : St))) = R at *
            clear hR
            generalize ((v - gR (nxB l n) n (M ||| 2 ^ i) : Nat) : Int) = vi at *
            generalize gR (nxB l n) n (M ||| 2 ^ i) = w at *
            generalize M ||| 2 ^ i = M2 at *
            clear ik ih hf
            simp only [nB] at this g3 ⊢
            generalize nm O = N at *
            generalize O.length = m at *
            rw [lpB_eq]
            rcases g2 with ⟨rfl, rfl⟩ | rfl
            · simp (maxSteps := 1000000) (disch := first | omega | decide | assumption | simp [scal]) [o_fieldAddr fa_90_1 (by decide), loadA_eq ia_88, lenA_sl lk_24, lenA_sl lk_22, o_fieldAddr fa_90_0 (by decide), loadA_eq ia_78, o_indexAddrS es_24, ze_24, o_buildSlice es_24 ze_24 (by decide) ba_24_1, ap_24, builtin_append ni_24, e1, a1, a2, g3, hvv', hw, fm_ptr, fm_ren, ptrV_map, renV_map, this]
            · simp (maxSteps := 1000000) (disch := first | omega | decide | assumption | simp [scal]) [o_fieldAddr fa_90_1 (by decide), loadA_eq ia_88, lenA_sl lk_24, lenA_sl lk_22, o_fieldAddr fa_90_0 (by decide), loadA_eq ia_78, o_indexAddrS es_24, ze_24, o_buildSlice es_24 ze_24 (by decide) ba_24_1, ap_24, builtin_append ni_24, e1, a1, a2, g3, hvv', hw, fm_ptr, fm_ren, ptrV_map, renV_map, this]
    have hs := gR_sum (nx := nxB l n) (fun _ _ h => nxB_bit h) hM
    have hgle : gR (nxB l n) n M ≤ 8916100448256 := gR_le hn
    have h := inn n 0 v es (by omega) (by rw [← hs]; exact hv) (by omega) hi
    obtain ⟨x, v', h4, _⟩ := atI_some (nx := nxB l n) (n := n) (M := M) n 0 v (by rw [← hs]; exact hv)
    rw [h4] at h
    simp only [Int.natCast_zero] at h
    rw [h]
    simp only [atO, h4]
end
end Go.Proofs.Ytfccmddkblbeoaa.rk
namespace Go.Proofs.Ytfccmddkblbeoaa.rk
open Go.GE
set_option linter.unusedVariables false
set_option linter.unusedSimpArgs false
set_option linter.unusedSectionVars false
set_option maxRecDepth 100000
set_option maxHeartbeats 4000000
attribute [local simp] runOps_nil runOps_cons runOpsF_nil runOpsF_cons fstS_some fstF_some opStep_eq want_none oStep_true oStep_false fin_pure fin_read fin_alloc fin_write storeB wrN cellV addWr o_move o_assign o_pick o_alloc o_box o_load o_store o_nilCheck o_bin o_un o_extract o_callV o_callB o_callI callV_f callV_y callV_fc o_makeFunc partsA Instr.fill builtin_len builtin_max2 bin_add bin_sub bin_mul bin_quo bin_rem bin_lss bin_leq bin_gtr bin_geq bin_eql bin_neq un_neg un_not bin_shr bin_shl wrap_u64_id opd opds optAll putO nbeq nblt constOk isC ops sub cl cr co bodyOf thenS_normal thenS_ret thenS_exit thenS_goto afterN_normal afterN_ret afterN_exit afterN_goto condS_true condS_false blockS_normal blockS_ret blockS_exit blockS_goto headS normS normK_eq fixS_nil fixS_cons fix1 fixV emptyB keepO_nil keepO_cons roundC_normal roundC_exit roundC_ret roundC_goto sweep_eq sweepD rnm pickR pickW rootsB ptrT renT ptrFn renFn ptrB_flat ptrB_non renB_flat renB_non plainS_some drawS_some fpsOk disj unord range' dropTo enumT undef wrap_i64_id Value.cells mkCells ptrTo scal cellsAt rdN endS_ret resultsA Option.bind_some tupV finish reachN dep ptrL_eq ptrL renL_eq renL ptrV_bool ptrV_int ptrV_string ptrV_nilFunc ptrV_nilIface ptrV_nilPtr ptrV_ptr ptrV_nilSl ptrV_sl ptrV_iface ptrV_agg ptrV_tuple ptrV_func renV_bool renV_int renV_string renV_nilFunc renV_nilIface renV_nilPtr renV_ptr renV_nilSl renV_sl renV_iface renV_agg renV_tuple renV_func gotoS_goto gotoS_normal gotoS_exit gotoS_ret skip_seq sliceE bnd bndHi intOf optOpd keepT_nil keepT_cons keepC_t keepC_f lk_nil lk_cons lkC_t lkC_f has_nil has_cons hasC_t hasC_f rep_nil rep_cons repC_t repC_f put_eq putC_t putC_f mem_nil mem_cons memC_t memC_f idx_nil idx_cons idxC_t idxC_f reach_nil reachP_cons reachQ_t reachQ_f ptrB_dead renB_dead ins_eq
attribute [local simp] n27_1s n27_3s n27_7s n27_10s n27_11s n27_9s n27_13s n27_16s n27_17s n27_15s n27_18s n27_14s n27_12s n27_8s n27_6s n27_5s n27_20s n27_22s n27_25s n27_30s n27_32s n27_33s n27_31s n27_29s n27_38s n27_40s n27_41s n27_39s n27_37s n27_44s n27_46s n27_49s n27_50s n27_48s n27_51s n27_47s n27_45s n27_43s n27_53s n27_54s n27_52s n27_42s n27_36s n27_35s n27_55s n27_34s n27_28s n27_27s n27_27g n27_26s n27_24s n27_57s n27_58s n27_56s n27_23s n27_21s n27_19s n27_4s n27_2s n27_0s Try.f27 n28_1s n28_3s n28_6s n28_9s n28_10s n28_8s n28_11s n28_7s n28_5s n28_13s n28_16s n28_19s n28_20s n28_18s n28_21s n28_17s n28_15s n28_23s n28_25s n28_31s n28_33s n28_34s n28_32s n28_30s n28_37s n28_42s n28_44s n28_45s n28_43s n28_41s n28_50s n28_52s n28_53s n28_51s n28_49s n28_56s n28_59s n28_60s n28_58s n28_61s n28_57s n28_55s n28_62s n28_54s n28_48s n28_47s n28_63s n28_46s n28_40s n28_39s n28_39g n28_38s n28_36s n28_35s n28_29s n28_28s n28_28g n28_27s n28_65s n28_66s n28_64s n28_26s n28_24s n28_22s n28_14s n28_12s n28_4s n28_2s n28_0s Try.f28
def atE (l : Nat → Int × Int) (n : Nat) (K : Int) : Int := if cntE l n = 0 then (if (decide (0 ≤ K) && decide (K ≤ (cntV l n : Int) - 1)) = true then 0 else 1) else cntE l n
def atV (l : Nat → Int × Int) (n : Nat) (K : Int) : List Nat := if atE l n K = 0 then atO (nxB l n) n n 0 K.toNat else []
theorem atO_len {nx : Nat → Nat → Bool} (hnx : ∀ M i, nx M i = true → M.testBit i = false) {n : Nat} : ∀ q M v, cntU n M = q → v < gR nx n M → (atO nx n q M v).length = q := by
  intro q
  induction q with
  | zero => intro M v _ _; rfl
  | succ q ih =>
    intro M v hM hv
    obtain ⟨x, v', h1, h2, h3, h4, h5⟩ := atI_some (nx := nx) (n := n) (M := M) n 0 v (by rw [← gR_sum hnx hM]; exact hv)
    simp only [atO, h1, List.length_cons]
    have := cntU_lt (hnx M x h4) n (by omega)
    rw [ih _ _ (by omega) h5]
theorem gR_zero {nx : Nat → Nat → Bool} {n : Nat} : gR nx n 0 = cR nx n n 0 := by unfold gR; rw [cntU_zero]
section
variable (b off n c : Nat) {cs : List Value} {own : Bool} {l : Nat → Int × Int} {h : List Blk} (hb : h[b]? = some (.cells cs 2 true own)) (hc : SpC cs off n l)
include hb hc
theorem k27 (hn : n ≤ 60) (K : Int) : callH LL 27 [sl b off n c, iv K] h = some ⟨.tuple #[sl h.length 0 (atV l n K).length (atV l n K).length, iv (atE l n K)], h ++ [nB (atV l n K)], [b], []⟩ := by
  refine callN_1 rfl hb noIdB_flat (args' := [sl 0 off n c, iv K]) (by simp [renV, dep, optAll, idx, nbeq]) (v := .tuple #[sl 1 0 (atV l n K).length (atV l n K).length, iv (atE l n K)]) (news := [nB (atV l n K)]) (go (by decide) ?_) (by intro blk hb; simp only [List.mem_singleton] at hb; subst hb; exact noIdB_flat) (by simp [renV, dep, optAll])
  have a59 := k59 off n c (own := own) hc hn
  rw [run27 _ _ _ (by simp)]
  by_cases h1 : cntE l n = 0
  · obtain ⟨_, n12, n1⟩ := cntE_ok h1
    rw [if_pos h1] at a59
    obtain ⟨es1, wr1, g1, g2, g3⟩ := askL off n c (own := own) hc n12 [(2 ^ n - 1, 1)] [(0, 1)] [] 0 inv0 (Nat.two_pow_pos n)
    have hV : cntV l n = gR (nxB l n) n 0 := by unfold cntV; rw [if_pos h1, gR_zero]
    have hgle : gR (nxB l n) n 0 ≤ 8916100448256 := gR_le n12
    have hw : IntKind.i64.wrap ((gR (nxB l n) n 0 : Int) - 1) = (gR (nxB l n) n 0 : Int) - 1 := wrap_i64_id (by omega) (by omega)
    have hE : atE l n K = if (decide (0 ≤ K) && decide (K ≤ (gR (nxB l n) n 0 : Int) - 1)) = true then 0 else 1 := by unfold atE; rw [if_pos h1, hV]
    cases h2 : (decide (0 ≤ K) && decide (K ≤ (gR (nxB l n) n 0 : Int) - 1))
    · rw [h2, if_neg (by decide)] at hE
      have hA : atV l n K = [] := by unfold atV; rw [if_neg (by omega)]
      rw [hE, hA]
      simp only [nB, nm_nil, List.length_nil]
      simp only [Int.natCast_zero, LA] at g3
      rw [show wv 0 = .int .u32 0 from rfl] at g3
      generalize gR (nxB l n) n 0 = w at *
      rcases g2 with ⟨rfl, rfl⟩ | rfl
      · simp (maxSteps := 1000000) (disch := first | omega | decide | assumption | simp [scal]) [o_fieldAddr fa_90_1 (by decide), loadA_eq ia_88, lenA_sl lk_24, lenA_sl lk_22, o_fieldAddr fa_90_0 (by decide), loadA_eq ia_78, o_indexAddrS es_24, ze_24, o_buildSlice es_24 ze_24 (by decide) ba_24_1, ap_24, builtin_append ni_24, a59, g3, k57, hw, h2, fm_ptr, fm_ren, ptrV_map, renV_map]
      · simp (maxSteps := 1000000) (disch := first | omega | decide | assumption | simp [scal]) [o_fieldAddr fa_90_1 (by decide), loadA_eq ia_88, lenA_sl lk_24, lenA_sl lk_22, o_fieldAddr fa_90_0 (by decide), loadA_eq ia_78, o_indexAddrS es_24, ze_24, o_buildSlice es_24 ze_24 (by decide) ba_24_1, ap_24, builtin_append ni_24, a59, g3, k57, hw, h2, fm_ptr, fm_ren, ptrV_map, renV_map]
    · rw [h2, if_pos rfl] at hE
      simp only [Bool.and_eq_true, decide_eq_true_eq] at h2
      have hA : atV l n K = atO (nxB l n) n n 0 K.toNat := by unfold atV; rw [if_pos hE]
      have hv : K.toNat < gR (nxB l n) n 0 := by
        have q1 := h2.1
        have q2 := h2.2
        omega
      have hl : (atV l n K).length = n := by rw [hA]; exact atO_len (fun _ _ h => nxB_bit h) n 0 K.toNat cntU_zero hv
      have lp := l27 off n c (own := own) hc n12 [(0, 1)] n [] 0 K.toNat es1 (by simp) cntU_zero hv (Nat.two_pow_pos n) g1
      rw [hE, hl, hA]
      have h2' : (decide (0 ≤ K) && decide (K ≤ (gR (nxB l n) n 0 : Int) - 1)) = true := by simp [h2.1, h2.2]
      have hK : ((K.toNat : Nat) : Int) = K := by omega
      simp only [Int.natCast_zero, LA, hK, List.nil_append, List.length_nil, nB, nm_nil] at g3 lp ⊢
      rw [show wv 0 = .int .u32 0 from rfl] at g3 lp
      generalize nm (atO (nxB l n) n n 0 K.toNat) = Y at *
      generalize gR (nxB l n) n 0 = w at *
      clear hE hA hl hV
      rcases g2 with ⟨rfl, rfl⟩ | rfl
      · simp (maxSteps := 1000000) (disch := first | omega | decide | assumption | simp [scal]) [o_fieldAddr fa_90_1 (by decide), loadA_eq ia_88, lenA_sl lk_24, lenA_sl lk_22, o_fieldAddr fa_90_0 (by decide), loadA_eq ia_78, o_indexAddrS es_24, ze_24, o_buildSlice es_24 ze_24 (by decide) ba_24_1, ap_24, builtin_append ni_24, a59, g3, k57, hw, h2', lp, fm_ptr, fm_ren, ptrV_map, renV_map]
      · simp (maxSteps := 1000000) (disch := first | omega | decide | assumption | simp [scal]) [o_fieldAddr fa_90_1 (by decide), loadA_eq ia_88, lenA_sl lk_24, lenA_sl lk_22, o_fieldAddr fa_90_0 (by decide), loadA_eq ia_78, o_indexAddrS es_24, ze_24, o_buildSlice es_24 ze_24 (by decide) ba_24_1, ap_24, builtin_append ni_24, a59, g3, k57, hw, h2', lp, fm_ptr, fm_ren, ptrV_map, renV_map]
  · have hE : atE l n K = cntE l n := by unfold atE; rw [if_neg h1]
    have hA : atV l n K = [] := by unfold atV; rw [if_neg (by omega)]
    rw [if_neg h1] at a59
    rw [hE, hA]
    simp only [nB, nm_nil, List.length_nil]
    simp (maxSteps := 1000000) (disch := first | omega | decide | assumption | simp [scal]) [o_fieldAddr fa_90_1 (by decide), loadA_eq ia_88, lenA_sl lk_24, lenA_sl lk_22, o_fieldAddr fa_90_0 (by decide), loadA_eq ia_78, o_indexAddrS es_24, ze_24, o_buildSlice es_24 ze_24 (by decide) ba_24_1, ap_24, builtin_append ni_24, a59, h1]
end
section
variable (off n c : Nat) {cs : List Value} {own : Bool} {l : Nat → Int × Int}
theorem l28i (hc : SpC cs off n l) (hn : n ≤ 12) (O : List Nat) (hO : O.length < n) (M : Nat) (hM : M < 2 ^ n) : ∀ (k i v : Nat), i + k = n → v < cS (fN (nxB l n) n M) k i 0 → v < 8916100448257 →
    lpB Try.prog LL ⟨28, 68, 1, none⟩ n28_39 n28_40 ⟨[(10, iv i), (0, sl 0 off n c), (1, iv v), (7, sl 1 0 (2 ^ n) (2 ^ n)), (8, sl 2 0 O.length O.length), (9, iv M)], [.cells cs 2 true own, tb (gR (nxB l n) n) (2 ^ n), nB O], []⟩ =
      match atI (nxB l n) n M k i v with
      | none => none
      | some (x, v') => some (.exit 2, ⟨[(0, sl 0 off n c), (1, iv v'), (7, sl 1 0 (2 ^ n) (2 ^ n)), (8, sl 2 0 (O.length + 1) (O.length + 1)), (9, iv (M ||| 2 ^ x : Nat))], [.cells cs 2 true own, tb (gR (nxB l n) n) (2 ^ n), nB (O ++ [x])], []⟩) := by
  have hM32 : M < 2 ^ 32 := Nat.lt_of_lt_of_le hM (Nat.pow_le_pow_right (by decide) (by omega))
  intro k
  induction k with
  | zero => intro i v hk hv; simp [cS] at hv
  | succ k ik =>
    intro i v hk hv hvb
    have i0 : i < n := by omega
    have e1 : (i : Int) < n := by omega
    have a1 := fun bx => k63 0 off n c (h := .cells cs 2 true own :: bx) rfl hc (by omega) M i hM32 i0
    simp only [cS] at hv
    rw [cS_add] at hv
    unfold atI
    cases h : nxB l n M i
    · rw [h] at a1
      have hf : fN (nxB l n) n M i = 0 := by simp only [fN, h, cond_false]
      have this := ik (i + 1) v (by omega) (by omega) hvb
      rw [if_neg (by decide)]
      simp only [cast1] at this
      generalize hR : (match atI (nxB l n) n M k (i + 1) v with
            | none => none
            | some (x, v') => some (Ex.exit 2, (⟨[(0, sl 0 off n c), (1, iv v'), (7, sl 1 0 (2 ^ n) (2 ^ n)), (8, sl 2 0 (O.length + 1) (O.length + 1)), (9, iv (M ||| 2 ^ x : Nat))], [.cells cs 2 true own, tb (gR (nxB l n) n) (2 ^ n), nB (O ++ [x])], []⟩ : St))) = R at *
      clear ik hR
      simp only [nB, tb] at this ⊢
      generalize nm O = Q at *
      generalize O.length = m at *
      generalize tL (gR (nxB l n) n) (2 ^ n) = U at *
      generalize 2 ^ n = N at *
      rw [lpB_eq]
      simp (maxSteps := 1000000) (disch := first | omega | decide | assumption | simp [scal]) [o_indexAddrS es_24, loadA_eq ia_3, lenA_sl lk_24, lenA_sl lk_22, ze_24, o_buildSlice es_24 ze_24 (by decide) ba_24_1, ap_24, builtin_append ni_24, e1, a1, this]
    · rw [h] at a1
      have hf : fN (nxB l n) n M i = gR (nxB l n) n (M ||| 2 ^ i) := by simp only [fN, h, cond_true]
      have h3 : M ||| 2 ^ i < 2 ^ n := Nat.or_lt_two_pow hM (Nat.pow_lt_pow_right (by decide) i0)
      have hgle : gR (nxB l n) n (M ||| 2 ^ i) ≤ 8916100448256 := gR_le hn
      have p1 := tL_get (g := gR (nxB l n) n) h3
      have ul := tL_len (g := gR (nxB l n) n) (N := 2 ^ n)
      have s1 := shl_powi (J := i) (by omega)
      have s2 := fun cc => @bin_ori Try.prog 3 cc M (2 ^ i) (by omega) (Nat.pow_lt_pow_right (by decide) (by omega))
      rw [if_pos rfl]
      by_cases hvv : v < gR (nxB l n) n (M ||| 2 ^ i)
      · rw [if_pos hvv]
        have hvv' : (v : Int) < (gR (nxB l n) n (M ||| 2 ^ i) : Int) := by omega
        have c1 := fun hp b c rd => app_list (h := hp) (b := b) (c := c) (k := 1) (by' := 8) (l := O.length) (cs := nm O) (new := [iv i]) (rd := rd) (by rw [nm_len]; simp) (by omega) (by omega) rfl
        simp only [nB, tb, nm_app, nm_one]
        clear ik hf
        generalize nm O = Q at *
        generalize O.length = m at *
        generalize gR (nxB l n) n (M ||| 2 ^ i) = w at *
        generalize tL (gR (nxB l n) n) (2 ^ n) = U at *
        generalize M ||| 2 ^ i = M2 at *
        generalize ((2 ^ i : Nat) : Int) = J2 at *
        generalize 2 ^ n = N at *
        have l1 : M2 < U.length := by omega
        obtain ⟨_, p1⟩ := List.getElem?_eq_some_iff.1 p1
        rw [lpB_eq]
        simp (maxSteps := 1000000) (disch := first | omega | decide | assumption | simp [scal]) [o_indexAddrS es_24, loadA_eq ia_3, lenA_sl lk_24, lenA_sl lk_22, ze_24, o_buildSlice es_24 ze_24 (by decide) ba_24_1, ap_24, builtin_append ni_24, e1, a1, s1, s2, l1, h3, p1, ul, hvv', append_some ap_24, srcCells, c1]
      · rw [if_neg hvv]
        rw [hf] at hv
        have this := ik (i + 1) (v - gR (nxB l n) n (M ||| 2 ^ i)) (by omega) (by omega) (by omega)
        have hvv' : ¬ (v : Int) < (gR (nxB l n) n (M ||| 2 ^ i) : Int) := by omega
        have hw : IntKind.i64.wrap ((v : Int) - (gR (nxB l n) n (M ||| 2 ^ i) : Int)) = ((v - gR (nxB l n) n (M ||| 2 ^ i) : Nat) : Int) := by
          rw [wrap_i64_id (by omega) (by omega)]; omega
        simp only [cast1] at this
        generalize hR : (match atI (nxB l n) n M k (i + 1) (v - gR (nxB l n) n (M ||| 2 ^ i)) with
            | none => none
            | some (x, v') => some (Ex.exit 2, (⟨[(0, sl 0 off n c), (1, iv v'), (7, sl 1 0 (2 ^ n) (2 ^ n)), (8, sl 2 0 (O.length + 1) (O.length + 1)), (9, iv (M ||| 2 ^ x : Nat))], [.cells cs 2 true own, tb (gR (nxB l n) n) (2 ^ n), nB (O ++ [x])], []⟩ : St))) = R at *
        clear ik hf hR
        simp only [nB, tb] at this ⊢
        generalize nm O = Q at *
        generalize O.length = m at *
        generalize ((v - gR (nxB l n) n (M ||| 2 ^ i) : Nat) : Int) = vi at *
        generalize gR (nxB l n) n (M ||| 2 ^ i) = w at *
        generalize tL (gR (nxB l n) n) (2 ^ n) = U at *
        generalize M ||| 2 ^ i = M2 at *
        generalize ((2 ^ i : Nat) : Int) = J2 at *
        generalize 2 ^ n = N at *
        have l1 : M2 < U.length := by omega
        obtain ⟨_, p1⟩ := List.getElem?_eq_some_iff.1 p1
        rw [lpB_eq]
        simp (maxSteps := 1000000) (disch := first | omega | decide | assumption | simp [scal]) [o_indexAddrS es_24, loadA_eq ia_3, lenA_sl lk_24, lenA_sl lk_22, ze_24, o_buildSlice es_24 ze_24 (by decide) ba_24_1, ap_24, builtin_append ni_24, e1, a1, s1, s2, l1, h3, p1, ul, hvv', hw, this]
theorem l28 (hc : SpC cs off n l) (hn : n ≤ 12) : ∀ (q : Nat) (O : List Nat) (M v : Nat), O.length + q = n → cntU n M = q → v < gR (nxB l n) n M → M < 2 ^ n →
    lpB Try.prog LL ⟨28, 68, 1, none⟩ n28_28 n28_29 ⟨[(0, sl 0 off n c), (1, iv v), (7, sl 1 0 (2 ^ n) (2 ^ n)), (8, sl 2 0 O.length O.length), (9, iv M)], [.cells cs 2 true own, tb (gR (nxB l n) n) (2 ^ n), nB O], []⟩ =
      some (.exit 0, ⟨[(8, sl 1 0 n n)], [.cells cs 2 true own, nB (O ++ atO (nxB l n) n q M v)], []⟩) := by
  intro q
  induction q with
  | zero =>
    intro O M v hO hM hv h2
    obtain rfl : O.length = n := by omega
    simp only [atO, List.append_nil, nB, tb]
    generalize nm O = N at *
    generalize tL (gR (nxB l O.length) O.length) (2 ^ O.length) = U at *
    generalize 2 ^ O.length = N2 at *
    generalize O.length = m at *
    rw [lpB_eq]
    simp (maxSteps := 1000000) (disch := first | omega | decide | assumption | simp [scal]) [o_indexAddrS es_24, loadA_eq ia_3, lenA_sl lk_24, lenA_sl lk_22, ze_24, o_buildSlice es_24 ze_24 (by decide) ba_24_1, ap_24, builtin_append ni_24]
  | succ q ih =>
    intro O M v hO hM hv h2
    have e1 : (O.length : Int) < n := by omega
    have hs := gR_sum (nx := nxB l n) (fun _ _ h => nxB_bit h) hM
    have hgle : gR (nxB l n) n M ≤ 8916100448256 := gR_le hn
    have inn := l28i off n c (own := own) hc hn O (by omega) M h2 n 0 v (by omega) (by rw [← hs]; exact hv) (by omega)
    obtain ⟨x, v', h4, h5, h6, h7, h8⟩ := atI_some (nx := nxB l n) (n := n) (M := M) n 0 v (by rw [← hs]; exact hv)
    rw [h4] at inn
    have hcn := cntU_lt (nxB_bit h7) n (by omega)
    have h3 : M ||| 2 ^ x < 2 ^ n := Nat.or_lt_two_pow h2 (Nat.pow_lt_pow_right (by decide) (by omega))
    have this := ih (O ++ [x]) (M ||| 2 ^ x) v' (by simp; omega) (by omega) h8 h3
    have e2 : O ++ x :: atO (nxB l n) n q (M ||| 2 ^ x) v' = (O ++ [x]) ++ atO (nxB l n) n q (M ||| 2 ^ x) v' := by simp
    simp only [atO, h4, e2]
    simp only [List.length_append, List.length_cons, List.length_nil, Nat.zero_add, Int.natCast_zero, nB, tb] at this inn ⊢
    generalize nm (O ++ [x] ++ atO (nxB l n) n q (M ||| 2 ^ x) v') = Y at *
    generalize M ||| 2 ^ x = M2 at *
    generalize nm (O ++ [x]) = Q2 at *
    generalize nm O = Q at *
    generalize O.length = m at *
    generalize tL (gR (nxB l n) n) (2 ^ n) = U at *
    generalize 2 ^ n = N at *
    clear ih e2
    rw [lpB_eq]
    simp (maxSteps := 1000000) (disch := first | omega | decide | assumption | simp [scal]) [o_indexAddrS es_24, loadA_eq ia_3, lenA_sl lk_24, lenA_sl lk_22, ze_24, o_buildSlice es_24 ze_24 (by decide) ba_24_1, ap_24, builtin_append ni_24, e1, inn, this]
end
section
variable (b off n c : Nat) {cs : List Value} {own : Bool} {l : Nat → Int × Int} {h : List Blk} (hb : h[b]? = some (.cells cs 2 true own)) (hc : SpC cs off n l)
include hb hc
theorem k28 (hn : n ≤ 60) (K : Int) : callH LL 28 [sl b off n c, iv K] h = some ⟨.tuple #[sl h.length 0 (atV l n K).length (atV l n K).length, iv (atE l n K)], h ++ [nB (atV l n K)], [b], []⟩ := by
  refine callN_1 rfl hb noIdB_flat (args' := [sl 0 off n c, iv K]) (by simp [renV, dep, optAll, idx, nbeq]) (v := .tuple #[sl 1 0 (atV l n K).length (atV l n K).length, iv (atE l n K)]) (news := [nB (atV l n K)]) (go (by decide) ?_) (by intro blk hb; simp only [List.mem_singleton] at hb; subst hb; exact noIdB_flat) (by simp [renV, dep, optAll])
  have a61 := fun bx => k61 0 off n c (h := .cells cs 2 true own :: bx) rfl hc hn
  rw [run28 _ _ _ (by simp)]
  by_cases h1 : cntE l n = 0
  · obtain ⟨_, n12, n1⟩ := cntE_ok h1
    have a62 := k62 0 off n c (h := [.cells cs 2 true own]) rfl hc n12
    have hV : cntV l n = gR (nxB l n) n 0 := by unfold cntV; rw [if_pos h1, gR_zero]
    have hgle : gR (nxB l n) n 0 ≤ 8916100448256 := gR_le n12
    have hw : IntKind.i64.wrap ((gR (nxB l n) n 0 : Int) - 1) = (gR (nxB l n) n 0 : Int) - 1 := wrap_i64_id (by omega) (by omega)
    have hE : atE l n K = if (decide (0 ≤ K) && decide (K ≤ (gR (nxB l n) n 0 : Int) - 1)) = true then 0 else 1 := by unfold atE; rw [if_pos h1, hV]
    have hN : 1 ≤ 2 ^ n := Nat.two_pow_pos n
    have p1 := tL_get (g := gR (nxB l n) n) hN
    have ul := tL_len (g := gR (nxB l n) n) (N := 2 ^ n)
    rw [h1] at a61
    simp only [tb] at a62
    cases h2 : (decide (0 ≤ K) && decide (K ≤ (gR (nxB l n) n 0 : Int) - 1))
    · rw [h2, if_neg (by decide)] at hE
      have hA : atV l n K = [] := by unfold atV; rw [if_neg (by omega)]
      rw [hE, hA]
      simp only [nB, nm_nil, List.length_nil]
      generalize gR (nxB l n) n 0 = w at *
      generalize tL (gR (nxB l n) n) (2 ^ n) = U at *
      generalize 2 ^ n = N at *
      have l1 : 0 < U.length := by omega
      have l2 : (0 : Int) < N := by omega
      have l3 : 0 < N := by omega
      obtain ⟨_, p1⟩ := List.getElem?_eq_some_iff.1 p1
      simp (maxSteps := 1000000) (disch := first | omega | decide | assumption | simp [scal]) [o_indexAddrS es_24, loadA_eq ia_3, lenA_sl lk_24, lenA_sl lk_22, ze_24, o_buildSlice es_24 ze_24 (by decide) ba_24_1, ap_24, builtin_append ni_24, a61, a62, l1, l2, l3, ul, p1, k58, hw, h2]
    · rw [h2, if_pos rfl] at hE
      simp only [Bool.and_eq_true, decide_eq_true_eq] at h2
      have hA : atV l n K = atO (nxB l n) n n 0 K.toNat := by unfold atV; rw [if_pos hE]
      have hv : K.toNat < gR (nxB l n) n 0 := by
        have q1 := h2.1
        have q2 := h2.2
        omega
      have hl : (atV l n K).length = n := by rw [hA]; exact atO_len (fun _ _ h => nxB_bit h) n 0 K.toNat cntU_zero hv
      have lp := l28 off n c (own := own) hc n12 n [] 0 K.toNat (by simp) cntU_zero hv (Nat.two_pow_pos n)
      rw [hE, hl, hA]
      have h2' : (decide (0 ≤ K) && decide (K ≤ (gR (nxB l n) n 0 : Int) - 1)) = true := by simp [h2.1, h2.2]
      have hK : ((K.toNat : Nat) : Int) = K := by omega
      simp only [Int.natCast_zero, hK, List.nil_append, List.length_nil, nB, tb, nm_nil] at lp ⊢
      generalize nm (atO (nxB l n) n n 0 K.toNat) = Y at *
      generalize gR (nxB l n) n 0 = w at *
      generalize tL (gR (nxB l n) n) (2 ^ n) = U at *
      generalize 2 ^ n = N at *
      have l1 : 0 < U.length := by omega
      have l2 : (0 : Int) < N := by omega
      have l3 : 0 < N := by omega
      obtain ⟨_, p1⟩ := List.getElem?_eq_some_iff.1 p1
      clear hE hA hl hV
      simp (maxSteps := 1000000) (disch := first | omega | decide | assumption | simp [scal]) [o_indexAddrS es_24, loadA_eq ia_3, lenA_sl lk_24, lenA_sl lk_22, ze_24, o_buildSlice es_24 ze_24 (by decide) ba_24_1, ap_24, builtin_append ni_24, a61, a62, l1, l2, l3, ul, p1, k58, hw, h2', lp]
  · have hE : atE l n K = cntE l n := by unfold atE; rw [if_neg h1]
    have hA : atV l n K = [] := by unfold atV; rw [if_neg (by omega)]
    rw [hE, hA]
    simp only [nB, nm_nil, List.length_nil]
    simp (maxSteps := 1000000) (disch := first | omega | decide | assumption | simp [scal]) [o_indexAddrS es_24, loadA_eq ia_3, lenA_sl lk_24, lenA_sl lk_22, ze_24, o_buildSlice es_24 ze_24 (by decide) ba_24_1, ap_24, builtin_append ni_24, a61, h1]
end
end Go.Proofs.Ytfccmddkblbeoaa.rk
namespace Go.Proofs.Ytfccmddkblbeoaa.rk
open Go.GE
set_option linter.unusedVariables false
set_option linter.unusedSimpArgs false
set_option linter.unusedSectionVars false
set_option maxRecDepth 100000
set_option maxHeartbeats 4000000
attribute [local simp] runOps_nil runOps_cons runOpsF_nil runOpsF_cons fstS_some fstF_some opStep_eq want_none oStep_true oStep_false fin_pure fin_read fin_alloc fin_write storeB wrN cellV addWr o_move o_assign o_pick o_alloc o_box o_load o_store o_nilCheck o_bin o_un o_extract o_callV o_callB o_callI callV_f callV_y callV_fc o_makeFunc partsA Instr.fill builtin_len builtin_max2 bin_add bin_sub bin_mul bin_quo bin_rem bin_lss bin_leq bin_gtr bin_geq bin_eql bin_neq un_neg un_not bin_shr bin_shl wrap_u64_id opd opds optAll putO nbeq nblt constOk isC ops sub cl cr co bodyOf thenS_normal thenS_ret thenS_exit thenS_goto afterN_normal afterN_ret afterN_exit afterN_goto condS_true condS_false blockS_normal blockS_ret blockS_exit blockS_goto headS normS normK_eq fixS_nil fixS_cons fix1 fixV emptyB keepO_nil keepO_cons roundC_normal roundC_exit roundC_ret roundC_goto sweep_eq sweepD rnm pickR pickW rootsB ptrT renT ptrFn renFn ptrB_flat ptrB_non renB_flat renB_non plainS_some drawS_some fpsOk disj unord range' dropTo enumT undef wrap_i64_id Value.cells mkCells ptrTo scal cellsAt rdN endS_ret resultsA Option.bind_some tupV finish reachN dep ptrL_eq ptrL renL_eq renL ptrV_bool ptrV_int ptrV_string ptrV_nilFunc ptrV_nilIface ptrV_nilPtr ptrV_ptr ptrV_nilSl ptrV_sl ptrV_iface ptrV_agg ptrV_tuple ptrV_func renV_bool renV_int renV_string renV_nilFunc renV_nilIface renV_nilPtr renV_ptr renV_nilSl renV_sl renV_iface renV_agg renV_tuple renV_func gotoS_goto gotoS_normal gotoS_exit gotoS_ret skip_seq sliceE bnd bndHi intOf optOpd keepT_nil keepT_cons keepC_t keepC_f lk_nil lk_cons lkC_t lkC_f has_nil has_cons hasC_t hasC_f rep_nil rep_cons repC_t repC_f put_eq putC_t putC_f mem_nil mem_cons memC_t memC_f idx_nil idx_cons idxC_t idxC_f reach_nil reachP_cons reachQ_t reachQ_f ptrB_dead renB_dead ins_eq
attribute [local simp] n4_1s n4_4s n4_7s n4_8s n4_6s n4_9s n4_5s n4_3s n4_11s n4_13s n4_15s n4_17s n4_19s n4_21s n4_23s n4_24s n4_22s n4_20s n4_18s n4_16s n4_14s n4_12s n4_10s n4_2s n4_0s Try.f4
theorem atV_le {l : Nat → Int × Int} {n : Nat} {K : Int} : (atV l n K).length ≤ 60 := by
  unfold atV
  by_cases h : atE l n K = 0
  · rw [if_pos h]
    unfold atE at h
    by_cases h1 : cntE l n = 0
    · obtain ⟨_, n12, _⟩ := cntE_ok h1
      rw [if_pos h1] at h
      have hV : cntV l n = gR (nxB l n) n 0 := by unfold cntV; rw [if_pos h1, gR_zero]
      split at h
      · rename_i h2
        simp only [Bool.and_eq_true, decide_eq_true_eq] at h2
        have q1 := h2.1
        have q2 := h2.2
        have hv : K.toNat < gR (nxB l n) n 0 := by omega
        rw [atO_len (fun _ _ h => nxB_bit h) n 0 K.toNat cntU_zero hv]
        omega
      · omega
    · rw [if_neg h1] at h; exact absurd h h1
  · rw [if_neg h]; simp
section
variable (off n c off2 m c2 : Nat) {cs cs2 : List Value} {own own2 : Bool} {l : Nat → Int × Int} {o : Nat → Int}
theorem c4 (K : Int) (hc : SpC cs off n l) (hc2 : InC cs2 off2 m o) : LL.run 4 [sl 0 off n c, sl 1 off2 m c2, iv K] [.cells cs 2 true own, .cells cs2 1 true own2] = some ⟨.bool true, [], []⟩ := by
  refine go (by decide) ?_
  rw [run4 _ _ _ (by simp)]
  by_cases h1 : 60 < n
  · have h1' : (60 : Int) < n := by omega
    have h2' : (9 : Int) < n := by omega
    have h3' : ¬ (n : Int) ≤ 12 := by omega
    simp (maxSteps := 1000000) (disch := first | omega | decide | assumption | simp [scal]) [lenA_sl lk_22, lenA_sl lk_24, want_some q4_4g3, want_some q4_4g8, want_some q4_4g13, want_some q4_23g3, want_some q4_23g8, want_some q4_23g13, want_some q4_23g18, want_some q4_23g23, want_some q4_23g28, k14, h1, h1', h2', h3']
  have h1' : ¬ (60 : Int) < n := by omega
  by_cases h2 : 60 < m
  · have h2' : (60 : Int) < m := by omega
    by_cases h3 : 9 < n
    · have h3' : (9 : Int) < n := by omega
      by_cases h4 : n ≤ 12
      · have h4' : (n : Int) ≤ 12 := by omega
        simp (maxSteps := 1000000) (disch := first | omega | decide | assumption | simp [scal]) [lenA_sl lk_22, lenA_sl lk_24, want_some q4_4g3, want_some q4_4g8, want_some q4_4g13, want_some q4_23g3, want_some q4_23g8, want_some q4_23g13, want_some q4_23g18, want_some q4_23g23, want_some q4_23g28, k14, h1, h1', h2, h2', h3, h3', h4, h4']
      · have h4' : ¬ (n : Int) ≤ 12 := by omega
        simp (maxSteps := 1000000) (disch := first | omega | decide | assumption | simp [scal]) [lenA_sl lk_22, lenA_sl lk_24, want_some q4_4g3, want_some q4_4g8, want_some q4_4g13, want_some q4_23g3, want_some q4_23g8, want_some q4_23g13, want_some q4_23g18, want_some q4_23g23, want_some q4_23g28, k14, h1, h1', h2, h2', h3, h3', h4, h4']
    · have h3' : ¬ (9 : Int) < n := by omega
      simp (maxSteps := 1000000) (disch := first | omega | decide | assumption | simp [scal]) [lenA_sl lk_22, lenA_sl lk_24, want_some q4_4g3, want_some q4_4g8, want_some q4_4g13, want_some q4_23g3, want_some q4_23g8, want_some q4_23g13, want_some q4_23g18, want_some q4_23g23, want_some q4_23g28, k14, h1, h1', h2, h2', h3, h3']
  have h2' : ¬ (60 : Int) < m := by omega
  have hn : n ≤ 60 := by omega
  have hm : m ≤ 60 := by omega
  have a23 := fun bx => k23 0 off n c (h := .cells cs 2 true own :: bx) rfl hc hn
  have a24 := fun bx => k24 0 off n c (h := .cells cs 2 true own :: bx) rfl hc hn
  have a25 := fun bx => k25 0 off n c 1 off2 m c2 (h := .cells cs 2 true own :: .cells cs2 1 true own2 :: bx) rfl rfl (by decide) hc hc2 hn hm
  have a26 := fun bx => k26 0 off n c 1 off2 m c2 (h := .cells cs 2 true own :: .cells cs2 1 true own2 :: bx) rfl rfl (by decide) hc hc2 hn hm
  have a27 := k27 0 off n c (h := [.cells cs 2 true own, .cells cs2 1 true own2]) rfl hc hn K
  have a28 := fun b1 => k28 0 off n c (h := [.cells cs 2 true own, .cells cs2 1 true own2, b1]) rfl hc hn K
  have u1 := fun b0 b1 => k21 (atV l n K) 2 3 (h := [b0, b1, nB (atV l n K), nB (atV l n K)]) rfl rfl (by decide) atV_le
  simp only [nB] at a27 a28 u1
  clear hc hc2
  generalize nm (atV l n K) = F at *
  generalize (atV l n K).length = nF at *
  generalize atE l n K = ek at *
  generalize numE l n o m = ne at *
  generalize numV l n o m = nv at *
  generalize cntE l n = ce at *
  generalize cntV l n = cv at *
  by_cases h3 : 9 < n
  · have h3' : (9 : Int) < n := by omega
    by_cases h4 : n ≤ 12
    · have h4' : (n : Int) ≤ 12 := by omega
      simp (maxSteps := 1000000) (disch := first | omega | decide | assumption | simp [scal]) [lenA_sl lk_22, lenA_sl lk_24, want_some q4_4g3, want_some q4_4g8, want_some q4_4g13, want_some q4_23g3, want_some q4_23g8, want_some q4_23g13, want_some q4_23g18, want_some q4_23g23, want_some q4_23g28, k14, h1, h1', h2, h2', h3, h3', h4, h4']
    · have h4' : ¬ (n : Int) ≤ 12 := by omega
      simp (maxSteps := 1000000) (disch := first | omega | decide | assumption | simp [scal]) [lenA_sl lk_22, lenA_sl lk_24, want_some q4_4g3, want_some q4_4g8, want_some q4_4g13, want_some q4_23g3, want_some q4_23g8, want_some q4_23g13, want_some q4_23g18, want_some q4_23g23, want_some q4_23g28, k14, h1, h1', h2, h2', h3, h3', h4, h4', a23, a24, a25, a26, a27, a28, u1]
  · have h3' : ¬ (9 : Int) < n := by omega
    simp (maxSteps := 1000000) (disch := first | omega | decide | assumption | simp [scal]) [lenA_sl lk_22, lenA_sl lk_24, want_some q4_4g3, want_some q4_4g8, want_some q4_4g13, want_some q4_23g3, want_some q4_23g8, want_some q4_23g13, want_some q4_23g18, want_some q4_23g23, want_some q4_23g28, k14, h1, h1', h2, h2', h3, h3', a23, a24, a25, a26, a27, a28, u1]
end
end Go.Proofs.Ytfccmddkblbeoaa.rk
