/-
  Contracts of functions of the program at the limit evaluator. No condition.
-/
import Derived.Test.YtfccmddkblbeoaaREN
import Derived.Test.YtfccmddkblbeoaaE40
namespace Go.Proofs.Ytfccmddkblbeoaa.rk
open Go.GE
set_option linter.unusedVariables false
set_option linter.unusedSimpArgs false
set_option linter.unusedSectionVars false
set_option maxRecDepth 100000
set_option maxHeartbeats 4000000
attribute [local simp] runOps_nil runOps_cons runOpsF_nil runOpsF_cons fstS_some fstF_some opStep_eq want_none oStep_true oStep_false fin_pure fin_read fin_alloc fin_write storeB wrN cellV addWr o_move o_assign o_pick o_alloc o_box o_load o_store o_nilCheck o_bin o_un o_extract o_callV o_callB o_callI callV_f callV_y callV_fc o_makeFunc partsA Instr.fill builtin_len builtin_max2 bin_add bin_sub bin_mul bin_quo bin_rem bin_lss bin_leq bin_gtr bin_geq bin_eql bin_neq un_neg un_not bin_shr bin_shl wrap_u64_id opd opds optAll putO nbeq nblt constOk isC ops sub cl cr co bodyOf thenS_normal thenS_ret thenS_exit thenS_goto afterN_normal afterN_ret afterN_exit afterN_goto condS_true condS_false blockS_normal blockS_ret blockS_exit blockS_goto headS normS normK_eq fixS_nil fixS_cons fix1 fixV emptyB keepO_nil keepO_cons roundC_normal roundC_exit roundC_ret roundC_goto sweep_eq sweepD rnm pickR pickW rootsB ptrT renT ptrFn renFn ptrB_flat ptrB_non renB_flat renB_non plainS_some drawS_some fpsOk disj unord range' dropTo enumT undef wrap_i64_id Value.cells mkCells ptrTo scal cellsAt rdN endS_ret resultsA Option.bind_some tupV finish reachN dep ptrL_eq ptrL renL_eq renL ptrV_bool ptrV_int ptrV_string ptrV_nilFunc ptrV_nilIface ptrV_nilPtr ptrV_ptr ptrV_nilSl ptrV_sl ptrV_iface ptrV_agg ptrV_tuple ptrV_func renV_bool renV_int renV_string renV_nilFunc renV_nilIface renV_nilPtr renV_ptr renV_nilSl renV_sl renV_iface renV_agg renV_tuple renV_func gotoS_goto gotoS_normal gotoS_exit gotoS_ret skip_seq sliceE bnd bndHi intOf optOpd keepT_nil keepT_cons keepC_t keepC_f lk_nil lk_cons lkC_t lkC_f has_nil has_cons hasC_t hasC_f rep_nil rep_cons repC_t repC_f put_eq putC_t putC_f mem_nil mem_cons memC_t memC_f idx_nil idx_cons idxC_t idxC_f reach_nil reachP_cons reachQ_t reachQ_f ptrB_dead renB_dead ins_eq
attribute [local simp] n57_1s n57_3s n57_4s n57_2s n57_0s Try.f57 n75_1s n75_3s n75_4s n75_2s n75_0s Try.f75 n82_1s n82_4s n82_8s n82_11s n82_12s n82_10s n82_16s n82_18s n82_21s n82_22s n82_20s n82_23s n82_19s n82_17s n82_15s n82_14s n82_24s n82_13s n82_9s n82_7s n82_6s n82_6g n82_5s n82_3s n82_26s n82_27s n82_25s n82_2s n82_0s Try.f82
theorem other {f : FuncId} (hf : (14 : Nat) ≠ f) (a : List Value) (h : List Blk) : (wk.wtab.keep kpT).run f a h = none := by
  show GE.tabR [wk.ew] f a h = none
  have : Nat.beq wk.ew.f f = false := GE.beq_false.2 hf
  simp only [tabR, this, Bool.false_and, cond_false]
theorem go {f : FuncId} {args : List Value} {h : List Blk} {r : RR} (hf : (14 : Nat) ≠ f) (he : runB Try.prog LL f args h = some r) : LL.run f args h = some r := L_run (other hf _ _) he
theorem k14 (h : List Blk) : callH LL 14 [] h = some ⟨.bool true, h, [], []⟩ := callH_plain (L_tab rfl) rfl rfl
abbrev sl (b off n c : Nat) : Value := .slice (some ⟨b, off, none⟩) n c
abbrev pp (b : Nat) : Value := .pointer (some ⟨b, 0, none⟩)
/-- cells of spans -/
def SpC (cs : List Value) (off n : Nat) (l : Nat → Int × Int) : Prop := ∀ i, i < n → cs[off + i * 2]? = some (iv (l i).1) ∧ cs[off + i * 2 + 1]? = some (iv (l i).2)
/-- cells of integers -/
def InC (cs : List Value) (off n : Nat) (o : Nat → Int) : Prop := ∀ i, i < n → cs[off + i]? = some (iv (o i))
theorem k57 (a b c : Int) (h : List Blk) : callH LL 57 [iv a, iv b, iv c] h = some ⟨.bool (decide (a ≤ b) && decide (b ≤ c)), h, [], []⟩ := by
  refine callH_plain (go (by decide) ?_) rfl rfl
  rw [run57 _ _ _ (by simp)]
  by_cases h1 : a ≤ b <;> by_cases h2 : b ≤ c <;>
  simp (maxSteps := 1000000) (disch := first | omega | decide | assumption | simp [scal]) [want_some q57_3g3, h1, h2]
/-- a month's day that is not valid -/
def bad (s : Int × Int) : Bool := !(decide (0 ≤ s.1) && decide (s.1 ≤ s.2)) || decide (100000 < s.2)
theorem k75 (x y : Int) (h : List Blk) : callH LL 75 [.agg #[iv x, iv y]] h = some ⟨.bool (bad (x, y)), h, [], []⟩ := by
  refine callH_none rfl (fun _ => rfl) (go (by decide) ?_) fun _ => rfl
  rw [run75 _ _ _ (by simp)]
  cases h1 : (decide (0 ≤ x) && decide (x ≤ y))
  · simp (maxSteps := 1000000) (disch := first | omega | decide | assumption | simp [scal]) [o_fieldAddr fa_55_0 (by decide), loadA_eq ia_3, o_fieldAddr fa_55_1 (by decide), want_some q75_3g6, h1, k57, bad]
  · by_cases h2 : (100000 : Int) < y
    · simp (maxSteps := 1000000) (disch := first | omega | decide | assumption | simp [scal]) [o_fieldAddr fa_55_0 (by decide), loadA_eq ia_3, o_fieldAddr fa_55_1 (by decide), want_some q75_3g6, h1, h2, k57, bad]
    · simp (maxSteps := 1000000) (disch := first | omega | decide | assumption | simp [scal]) [o_fieldAddr fa_55_0 (by decide), loadA_eq ia_3, o_fieldAddr fa_55_1 (by decide), want_some q75_3g6, h1, h2, k57, bad]
def idxL (l : Nat → Int × Int) : Nat → Nat → Int
  | 0, _ => -1
  | k + 1, i => if bad (l i) = true then i else idxL l k (i + 1)
def anyB (l : Nat → Int × Int) : Nat → Nat → Bool
  | 0, _ => false
  | k + 1, i => bad (l i) || anyB l k (i + 1)
theorem idx_any {l : Nat → Int × Int} : ∀ k i, decide (0 ≤ idxL l k i) = anyB l k i := by
  intro k
  induction k with
  | zero => intro i; rfl
  | succ k ih =>
    intro i
    unfold idxL anyB
    cases h : bad (l i)
    · simp [ih]
    · simp
theorem any_iff {l : Nat → Int × Int} {n : Nat} : anyB l n 0 = false ↔ ∀ i, i < n → bad (l i) = false := by
  have key : ∀ k i, anyB l k i = false ↔ ∀ j, i ≤ j → j < i + k → bad (l j) = false := by
    intro k
    induction k with
    | zero => intro i; simp only [anyB, true_iff]; intro j h1 h2; omega
    | succ k ih =>
      intro i
      simp only [anyB, Bool.or_eq_false_iff, ih]
      constructor
      · rintro ⟨h1, h2⟩ j h3 h4
        by_cases hj : j = i
        · subst hj; exact h1
        · exact h2 j (by omega) (by omega)
      · intro h
        exact ⟨h i (by omega) (by omega), fun j h1 h2 => h j (by omega) (by omega)⟩
  rw [key]
  constructor
  · intro h i hi; exact h i (by omega) (by omega)
  · intro h j _ hj; exact h j (by omega)
section
variable (off n c : Nat) (cs : List Value) (own : Bool) (l : Nat → Int × Int)
theorem l82 (hc : SpC cs off n l) (hn : n ≤ 60) : ∀ k i : Nat, i + k = n →
    lpB Try.prog LL ⟨82, 19, 1, none⟩ n82_6 n82_7 ⟨[(0, sl 0 off n c), (1, .func (.func 75) #[] #[]), (7, iv n), (8, iv i)], [.cells cs 2 true own], []⟩ =
      if idxL l k i = -1 then some (.exit 0, ⟨[], [.cells cs 2 true own], []⟩) else some (.ret, ⟨[(4, iv (idxL l k i))], [.cells cs 2 true own], []⟩) := by
  intro k
  induction k with
  | zero =>
    intro i hi
    obtain rfl : i = n := by omega
    rw [lpB_eq]
    simp (maxSteps := 1000000) (disch := first | omega | decide | assumption | simp [scal]) [lenA_sl lk_22, o_indexAddrS es_22, loadA_eq ia_55, idxL]
  | succ k ih =>
    intro i hi
    have e1 : i < n := by omega
    have this := ih (i + 1) (by omega)
    obtain ⟨e2, e3⟩ := hc i e1
    obtain ⟨x, y, hxy⟩ : ∃ x y, l i = (x, y) := ⟨_, _, rfl⟩
    rw [hxy] at e2 e3
    unfold idxL
    rw [hxy]
    rw [lpB_eq]
    simp only [cast1] at this
    cases h1 : bad (x, y)
    · simp (maxSteps := 1000000) (disch := first | omega | decide | assumption | simp [scal]) [lenA_sl lk_22, o_indexAddrS es_22, loadA_eq ia_55, e1, e2, e3, k75, h1, this]
    · have : ¬ ((i : Int) = -1) := by omega
      simp (maxSteps := 1000000) (disch := first | omega | decide | assumption | simp [scal]) [lenA_sl lk_22, o_indexAddrS es_22, loadA_eq ia_55, e1, e2, e3, k75, h1, this]
end
end Go.Proofs.Ytfccmddkblbeoaa.rk
namespace Go.Proofs.Ytfccmddkblbeoaa.rk
open Go.GE
set_option linter.unusedVariables false
set_option linter.unusedSimpArgs false
set_option linter.unusedSectionVars false
set_option maxRecDepth 100000
set_option maxHeartbeats 4000000
attribute [local simp] runOps_nil runOps_cons runOpsF_nil runOpsF_cons fstS_some fstF_some opStep_eq want_none oStep_true oStep_false fin_pure fin_read fin_alloc fin_write storeB wrN cellV addWr o_move o_assign o_pick o_alloc o_box o_load o_store o_nilCheck o_bin o_un o_extract o_callV o_callB o_callI callV_f callV_y callV_fc o_makeFunc partsA Instr.fill builtin_len builtin_max2 bin_add bin_sub bin_mul bin_quo bin_rem bin_lss bin_leq bin_gtr bin_geq bin_eql bin_neq un_neg un_not bin_shr bin_shl wrap_u64_id opd opds optAll putO nbeq nblt constOk isC ops sub cl cr co bodyOf thenS_normal thenS_ret thenS_exit thenS_goto afterN_normal afterN_ret afterN_exit afterN_goto condS_true condS_false blockS_normal blockS_ret blockS_exit blockS_goto headS normS normK_eq fixS_nil fixS_cons fix1 fixV emptyB keepO_nil keepO_cons roundC_normal roundC_exit roundC_ret roundC_goto sweep_eq sweepD rnm pickR pickW rootsB ptrT renT ptrFn renFn ptrB_flat ptrB_non renB_flat renB_non plainS_some drawS_some fpsOk disj unord range' dropTo enumT undef wrap_i64_id Value.cells mkCells ptrTo scal cellsAt rdN endS_ret resultsA Option.bind_some tupV finish reachN dep ptrL_eq ptrL renL_eq renL ptrV_bool ptrV_int ptrV_string ptrV_nilFunc ptrV_nilIface ptrV_nilPtr ptrV_ptr ptrV_nilSl ptrV_sl ptrV_iface ptrV_agg ptrV_tuple ptrV_func renV_bool renV_int renV_string renV_nilFunc renV_nilIface renV_nilPtr renV_ptr renV_nilSl renV_sl renV_iface renV_agg renV_tuple renV_func gotoS_goto gotoS_normal gotoS_exit gotoS_ret skip_seq sliceE bnd bndHi intOf optOpd keepT_nil keepT_cons keepC_t keepC_f lk_nil lk_cons lkC_t lkC_f has_nil has_cons hasC_t hasC_f rep_nil rep_cons repC_t repC_f put_eq putC_t putC_f mem_nil mem_cons memC_t memC_f idx_nil idx_cons idxC_t idxC_f reach_nil reachP_cons reachQ_t reachQ_f ptrB_dead renB_dead ins_eq
attribute [local simp] n82_1s n82_4s n82_8s n82_11s n82_12s n82_10s n82_16s n82_18s n82_21s n82_22s n82_20s n82_23s n82_19s n82_17s n82_15s n82_14s n82_24s n82_13s n82_9s n82_7s n82_6s n82_6g n82_5s n82_3s n82_26s n82_27s n82_25s n82_2s n82_0s Try.f82 n74_1s n74_3s n74_4s n74_2s n74_0s Try.f74 n45_1s n45_5s n45_8s n45_9s n45_7s n45_11s n45_14s n45_15s n45_13s n45_17s n45_20s n45_21s n45_19s n45_22s n45_18s n45_16s n45_12s n45_10s n45_6s n45_4s n45_3s n45_24s n45_25s n45_23s n45_2s n45_0s Try.f45 n77_1s n77_3s n77_4s n77_2s n77_0s Try.f77
/-- a month's check -/
def chkS (l : Nat → Int × Int) (n : Nat) : Int := if n = 0 then 2 else if 30 < n then 3 else if anyB l n 0 = true then 1 else 0
def quiet (l : Nat → Int × Int) (i k : Nat) : Bool := decide ((l i).2 < (l k).1)
section
variable (b off n c : Nat) {cs : List Value} {own : Bool} {l : Nat → Int × Int} {h : List Blk} (hb : h[b]? = some (.cells cs 2 true own)) (hc : SpC cs off n l)
include hb hc
theorem k82 (hn : n ≤ 60) : callH LL 82 [sl b off n c, .func (.func 75) #[] #[]] h = some ⟨iv (idxL l n 0), h, [b], []⟩ := by
  refine callH_1 rfl hb noIdB_flat (args' := [sl 0 off n c, .func (.func 75) #[] #[]]) (by simp [renV, dep, optAll, idx, nbeq]) (go (by decide) ?_) fun _ => rfl
  rw [run82 _ _ _ (by simp)]
  have this := l82 off n c cs own l hc hn n 0 (by omega)
  by_cases h1 : idxL l n 0 = -1
  · rw [if_pos h1] at this
    simp only [Int.natCast_zero] at this
    rw [h1]
    simp (maxSteps := 1000000) (disch := first | omega | decide | assumption | simp [scal]) [lenA_sl lk_22, o_indexAddrS es_22, loadA_eq ia_55, this]
  · rw [if_neg h1] at this
    simp only [Int.natCast_zero] at this
    simp (maxSteps := 1000000) (disch := first | omega | decide | assumption | simp [scal]) [lenA_sl lk_22, o_indexAddrS es_22, loadA_eq ia_55, this]
theorem k74 (hn : n ≤ 60) : callH LL 74 [sl b off n c, .func (.func 75) #[] #[]] h = some ⟨.bool (anyB l n 0), h, [b], []⟩ := by
  refine callH_1 rfl hb noIdB_flat (args' := [sl 0 off n c, .func (.func 75) #[] #[]]) (by simp [renV, dep, optAll, idx, nbeq]) (go (by decide) ?_) fun _ => rfl
  rw [run74 _ _ _ (by simp)]
  have a := k82 0 off n c (h := [.cells cs 2 true own]) rfl hc hn
  have e := idx_any (l := l) n 0
  generalize idxL l n 0 = x at *
  rw [← e]
  by_cases h1 : 0 ≤ x <;>
  simp (maxSteps := 1000000) (disch := first | omega | decide | assumption | simp [scal]) [a, h1]
theorem k45 (hn : n ≤ 60) : callH LL 45 [sl b off n c] h = some ⟨iv (chkS l n), h, [b], []⟩ := by
  refine callH_1 rfl hb noIdB_flat (args' := [sl 0 off n c]) (by simp [renV, dep, optAll, idx, nbeq]) (go (by decide) ?_) fun _ => rfl
  rw [run45 _ _ _ (by simp)]
  unfold chkS
  by_cases h1 : n = 0
  · subst h1
    simp (maxSteps := 1000000) (disch := first | omega | decide | assumption | simp [scal]) [lenA_sl lk_22]
  have h1' : ¬ ((n : Int) = 0) := by omega
  by_cases h2 : 30 < n
  · have h2' : (30 : Int) < n := by omega
    simp (maxSteps := 1000000) (disch := first | omega | decide | assumption | simp [scal]) [lenA_sl lk_22, h1, h1', h2, h2']
  have h2' : ¬ (30 : Int) < n := by omega
  have a := k74 0 off n c (h := [.cells cs 2 true own]) rfl hc hn
  cases h3 : anyB l n 0 <;> rw [h3] at a
  · simp (maxSteps := 1000000) (disch := first | omega | decide | assumption | simp [scal]) [lenA_sl lk_22, h1, h1', h2, h2', a]
  · simp (maxSteps := 1000000) (disch := first | omega | decide | assumption | simp [scal]) [lenA_sl lk_22, h1, h1', h2, h2', a]
theorem k77 (i k : Nat) (hi : i < n) (hk : k < n) : callH LL 77 [sl b off n c, iv i, iv k] h = some ⟨.bool (quiet l i k), h, [b], []⟩ := by
  refine callH_1 rfl hb noIdB_flat (args' := [sl 0 off n c, iv i, iv k]) (by simp [renV, dep, optAll, idx, nbeq]) (go (by decide) ?_) fun _ => rfl
  rw [run77 _ _ _ (by simp)]
  obtain ⟨e1, e2⟩ := hc i hi
  obtain ⟨e3, e4⟩ := hc k hk
  by_cases h1 : (l i).2 < (l k).1 <;>
  simp (maxSteps := 1000000) (disch := first | omega | decide | assumption | simp [scal]) [o_indexAddrS es_78, o_fieldAddr fa_55_1 (by decide), loadA_eq ia_3, o_fieldAddr fa_55_0 (by decide), hi, hk, e1, e2, e3, e4, quiet, h1]
end
end Go.Proofs.Ytfccmddkblbeoaa.rk
namespace Go.Proofs.Ytfccmddkblbeoaa.rk
open Go.GE
set_option linter.unusedVariables false
set_option linter.unusedSimpArgs false
set_option linter.unusedSectionVars false
set_option maxRecDepth 100000
set_option maxHeartbeats 4000000
attribute [local simp] runOps_nil runOps_cons runOpsF_nil runOpsF_cons fstS_some fstF_some opStep_eq want_none oStep_true oStep_false fin_pure fin_read fin_alloc fin_write storeB wrN cellV addWr o_move o_assign o_pick o_alloc o_box o_load o_store o_nilCheck o_bin o_un o_extract o_callV o_callB o_callI callV_f callV_y callV_fc o_makeFunc partsA Instr.fill builtin_len builtin_max2 bin_add bin_sub bin_mul bin_quo bin_rem bin_lss bin_leq bin_gtr bin_geq bin_eql bin_neq un_neg un_not bin_shr bin_shl wrap_u64_id opd opds optAll putO nbeq nblt constOk isC ops sub cl cr co bodyOf thenS_normal thenS_ret thenS_exit thenS_goto afterN_normal afterN_ret afterN_exit afterN_goto condS_true condS_false blockS_normal blockS_ret blockS_exit blockS_goto headS normS normK_eq fixS_nil fixS_cons fix1 fixV emptyB keepO_nil keepO_cons roundC_normal roundC_exit roundC_ret roundC_goto sweep_eq sweepD rnm pickR pickW rootsB ptrT renT ptrFn renFn ptrB_flat ptrB_non renB_flat renB_non plainS_some drawS_some fpsOk disj unord range' dropTo enumT undef wrap_i64_id Value.cells mkCells ptrTo scal cellsAt rdN endS_ret resultsA Option.bind_some tupV finish reachN dep ptrL_eq ptrL renL_eq renL ptrV_bool ptrV_int ptrV_string ptrV_nilFunc ptrV_nilIface ptrV_nilPtr ptrV_ptr ptrV_nilSl ptrV_sl ptrV_iface ptrV_agg ptrV_tuple ptrV_func renV_bool renV_int renV_string renV_nilFunc renV_nilIface renV_nilPtr renV_ptr renV_nilSl renV_sl renV_iface renV_agg renV_tuple renV_func gotoS_goto gotoS_normal gotoS_exit gotoS_ret skip_seq sliceE bnd bndHi intOf optOpd keepT_nil keepT_cons keepC_t keepC_f lk_nil lk_cons lkC_t lkC_f has_nil has_cons hasC_t hasC_f rep_nil rep_cons repC_t repC_f put_eq putC_t putC_f mem_nil mem_cons memC_t memC_f idx_nil idx_cons idxC_t idxC_f reach_nil reachP_cons reachQ_t reachQ_f ptrB_dead renB_dead ins_eq
attribute [local simp] n72_1s n72_4s n72_6s n72_9s n72_10s n72_8s n72_11s n72_7s n72_5s n72_3s n72_14s n72_17s n72_18s n72_16s n72_19s n72_15s n72_13s n72_21s n72_24s n72_28s n72_31s n72_32s n72_30s n72_36s n72_40s n72_43s n72_44s n72_42s n72_46s n72_49s n72_50s n72_48s n72_51s n72_47s n72_45s n72_41s n72_39s n72_38s n72_52s n72_37s n72_35s n72_34s n72_53s n72_33s n72_29s n72_27s n72_26s n72_26g n72_25s n72_23s n72_55s n72_56s n72_54s n72_22s n72_20s n72_12s n72_2s n72_0s Try.f72
abbrev wv (n : Nat) : Value := .int .u32 (n : Int)
theorem wrap_u32 {n : Nat} (h : n < 2 ^ 32) : IntKind.u32.wrap (n : Int) = n := by simp [IntKind.wrap, IntKind.bits, IntKind.signed]; omega
theorem bin_and1w {P : Program} {t : TypeId} {c : Bool} {w : Nat} (h : w < 2 ^ 32) : binA P .and t c (.int .u32 (w : Int)) (.int .u32 1) = some (.int .u32 ((w % 2 : Nat) : Int)) := by
  have e : (BitVec.ofInt 32 (w : Int) &&& BitVec.ofInt 32 1).toNat = w % 2 := by
    rw [BitVec.ofInt_natCast]
    rw [show BitVec.ofInt 32 1 = BitVec.ofNat 32 1 from rfl, BitVec.toNat_and, BitVec.toNat_ofNat, BitVec.toNat_ofNat, Nat.mod_eq_of_lt h, Nat.mod_eq_of_lt (by decide : 1 < 2 ^ 32), Nat.and_one_is_mod]
  have e' : IntKind.u32.wrap ((BitVec.ofInt 32 (w : Int) &&& BitVec.ofInt 32 1).toNat : Int) = ((w % 2 : Nat) : Int) := by rw [e]; exact wrap_u32 (by omega)
  show some (Value.int .u32 (IntKind.u32.wrap ((BitVec.ofInt 32 (w : Int) &&& BitVec.ofInt 32 1).toNat : Int))) = _
  rw [e']
theorem bin_orw {P : Program} {t : TypeId} {c : Bool} {w v : Nat} (h : w < 2 ^ 32) (h' : v < 2 ^ 32) : binA P .or t c (.int .u32 (w : Int)) (.int .u32 (v : Int)) = some (.int .u32 ((w ||| v : Nat) : Int)) := by
  have hl : w ||| v < 2 ^ 32 := Nat.or_lt_two_pow h h'
  have e : (BitVec.ofInt 32 (w : Int) ||| BitVec.ofInt 32 (v : Int)).toNat = w ||| v := by
    rw [BitVec.ofInt_natCast, BitVec.ofInt_natCast, BitVec.toNat_or, BitVec.toNat_ofNat, BitVec.toNat_ofNat, Nat.mod_eq_of_lt h, Nat.mod_eq_of_lt h']
  have e' : IntKind.u32.wrap ((BitVec.ofInt 32 (w : Int) ||| BitVec.ofInt 32 (v : Int)).toNat : Int) = ((w ||| v : Nat) : Int) := by rw [e]; exact wrap_u32 hl
  show some (Value.int .u32 (IntKind.u32.wrap ((BitVec.ofInt 32 (w : Int) ||| BitVec.ofInt 32 (v : Int)).toNat : Int))) = _
  rw [e']
theorem fdiv_poww {w i : Nat} (hi : i < 32) : ((w : Int).fdiv (2 ^ min i IntKind.u32.bits)) = ((w / 2 ^ i : Nat) : Int) := by
  rw [show min i IntKind.u32.bits = i from Nat.min_eq_left (Nat.le_of_lt hi), Int.fdiv_eq_ediv_of_nonneg _ (by exact_mod_cast Nat.zero_le _)]
  simp
theorem shl_poww {J : Nat} (hJ : J < 32) : IntKind.u32.wrap (2 ^ min J IntKind.u32.bits) = ((2 ^ J : Nat) : Int) := by
  rw [show min J IntKind.u32.bits = J from Nat.min_eq_left (Nat.le_of_lt hJ), show ((2 : Int) ^ J) = ((2 ^ J : Nat) : Int) by simp]
  exact wrap_u32 (Nat.pow_lt_pow_right (by decide) hJ)
/-- whether a number stands among the k places from j on -/
def seenK (o : Nat → Int) (x : Int) : Nat → Nat → Bool
  | 0, _ => false
  | k + 1, j => decide (o j = x) || seenK o x k (j + 1)
theorem seen_iff {o : Nat → Int} {x : Int} : ∀ k j, seenK o x k j = true ↔ ∃ p, j ≤ p ∧ p < j + k ∧ o p = x := by
  intro k
  induction k with
  | zero => intro j; simp only [seenK, Bool.false_eq_true, false_iff]; rintro ⟨p, h1, h2, _⟩; omega
  | succ k ih =>
    intro j
    simp only [seenK, Bool.or_eq_true, decide_eq_true_eq, ih]
    constructor
    · rintro (h | ⟨p, h1, h2, h3⟩)
      · exact ⟨j, by omega, by omega, h⟩
      · exact ⟨p, by omega, by omega, h3⟩
    · rintro ⟨p, h1, h2, h3⟩
      by_cases hp : p = j
      · subst hp; exact .inl h3
      · exact .inr ⟨p, by omega, by omega, h3⟩
/-- the days met so far, as bits -/
def maskN (o : Nat → Int) : Nat → Nat
  | 0 => 0
  | i + 1 => maskN o i ||| 2 ^ (o i).toNat
theorem mask_bit {o : Nat → Int} {x : Nat} : ∀ {i}, (∀ j, j < i → 0 ≤ o j) → (maskN o i).testBit x = seenK o x i 0 := by
  intro i h
  apply Bool.eq_iff_iff.2
  rw [seen_iff]
  induction i with
  | zero => simp [maskN]
  | succ i ih =>
    have h0 := h i (by omega)
    have ih := ih fun j hj => h j (by omega)
    simp only [maskN, Nat.testBit_or, Bool.or_eq_true, Nat.testBit_two_pow, decide_eq_true_eq]
    rw [ih]
    constructor
    · rintro (⟨p, h1, h2, h3⟩ | h3)
      · exact ⟨p, by omega, by omega, h3⟩
      · exact ⟨i, by omega, by omega, by omega⟩
    · rintro ⟨p, h1, h2, h3⟩
      by_cases hp : p = i
      · subst hp; exact .inr (by omega)
      · exact .inl ⟨p, by omega, by omega, h3⟩
theorem mask_lt {o : Nat → Int} : ∀ {i}, (∀ j, j < i → 0 ≤ o j ∧ o j < 30) → maskN o i < 2 ^ 30 := by
  intro i
  induction i with
  | zero => intro _; simp [maskN]
  | succ i ih =>
    intro h
    have h0 := h i (by omega)
    exact Nat.or_lt_two_pow (ih fun j hj => h j (by omega)) (Nat.pow_lt_pow_right (by decide) (by omega))
/-- what is wrong with an order, from the i-th day on -/
def ordL (o : Nat → Int) (n : Nat) : Nat → Nat → Int
  | 0, _ => 0
  | k + 1, i => if (decide (0 ≤ o i) && decide (o i ≤ (n : Int) - 1)) = false then 6 else if seenK o (o i) i 0 = true then 7 else ordL o n k (i + 1)
def ordS (l : Nat → Int × Int) (n : Nat) (o : Nat → Int) (m : Nat) : Int := if chkS l n ≠ 0 then chkS l n else if m ≠ n then 4 else ordL o n m 0
section
variable (off n c off2 m c2 : Nat) (cs cs2 : List Value) (own own2 : Bool) (l : Nat → Int × Int) (o : Nat → Int)
theorem l72 (hc2 : InC cs2 off2 m o) (hn : n ≤ 30) (hm : m = n) : ∀ k i : Nat, i + k = m → (∀ j, j < i → 0 ≤ o j ∧ o j < n) →
    lpB Try.prog LL ⟨72, 43, 2, none⟩ n72_26 n72_27 ⟨[(0, sl 0 off n c), (6, wv (maskN o i)), (19, sl 1 off2 m c2), (20, iv m), (21, iv i)], [.cells cs 2 true own, .cells cs2 1 true own2], []⟩ =
      if ordL o n k i = 0 then some (.exit 0, ⟨[], [.cells cs 2 true own, .cells cs2 1 true own2], []⟩) else some (.ret, ⟨[(4, iv (ordL o n k i))], [.cells cs 2 true own, .cells cs2 1 true own2], []⟩) := by
  intro k
  induction k with
  | zero =>
    intro i hi hj
    obtain rfl : i = m := by omega
    generalize maskN o i = M
    rw [lpB_eq]
    simp (maxSteps := 1000000) (disch := first | omega | decide | assumption | simp [scal]) [lenA_sl lk_24, lenA_sl lk_78, o_indexAddrS es_24, loadA_eq ia_3, ordL]
  | succ k ih =>
    intro i hi hj
    have e1 : i < m := by omega
    have e1' : (i : Int) < m := by omega
    have e2 := hc2 i e1
    have hb := fun x => @mask_bit o x i fun j h => (hj j h).1
    have hl := @mask_lt o i fun j h => by have := hj j h; omega
    unfold ordL
    by_cases h1 : 0 ≤ o i ∧ o i ≤ (n : Int) - 1
    · have this := ih (i + 1) (by omega) (fun j h => by
        by_cases hj' : j = i
        · subst hj'; omega
        · exact hj j (by omega))
      obtain ⟨h1, h2⟩ := h1
      obtain ⟨x, hx⟩ : ∃ x : Nat, o i = x := ⟨(o i).toNat, by omega⟩
      have hb := hb x
      rw [show maskN o (i + 1) = maskN o i ||| 2 ^ (o i).toNat from rfl] at this
      rw [hx] at e2 h1 h2 this ⊢
      rw [Int.toNat_natCast] at this
      generalize maskN o i = M at *
      generalize seenK o (x : Int) i 0 = s at *
      have f1 := @fdiv_poww M x (by omega)
      have hq : M / 2 ^ x < 2 ^ 32 := by have := Nat.div_le_self M (2 ^ x); omega
      have f2 := fun c => @bin_and1w Try.prog 76 c _ hq
      have f3 := @shl_poww x (by omega)
      have p1 : 2 ^ x < 2 ^ 32 := Nat.pow_lt_pow_right (by decide) (by omega)
      have f4 := fun c => @bin_orw Try.prog 76 c M (2 ^ x) (by omega) p1
      rw [Nat.testBit_eq_decide_div_mod_eq] at hb
      generalize ((2 ^ x : Nat) : Int) = Q at *
      generalize M / 2 ^ x = q at *
      simp only [cast1] at this
      rw [lpB_eq]
      cases s
      · have hb' : ¬ (q : Int) % 2 = 1 := by have := of_decide_eq_false hb; omega
        simp (maxSteps := 1000000) (disch := first | omega | decide | assumption | simp [scal]) [lenA_sl lk_24, lenA_sl lk_78, o_indexAddrS es_24, loadA_eq ia_3, e1, e1', e2, h1, h2, k57, f1, f2, f3, f4, hb', this]
      · have hb' : (q : Int) % 2 = 1 := by have := of_decide_eq_true hb; omega
        have hb'' := eq_true hb'
        simp (maxSteps := 1000000) (disch := first | omega | decide | assumption | simp [scal]) [lenA_sl lk_24, lenA_sl lk_78, o_indexAddrS es_24, loadA_eq ia_3, e1, e1', e2, h1, h2, k57, f1, f2, f3, f4, hb'']
    · have h1' : (decide (0 ≤ o i) && decide (o i ≤ (n : Int) - 1)) = false := by
        simp only [Bool.and_eq_false_iff, decide_eq_false_iff_not]; omega
      generalize maskN o i = M at *
      rw [lpB_eq]
      simp (maxSteps := 1000000) (disch := first | omega | decide | assumption | simp [scal]) [lenA_sl lk_24, lenA_sl lk_78, o_indexAddrS es_24, loadA_eq ia_3, e1, e1', e2, h1', k57]
end
theorem so_ren {b off n c b2 off2 m c2 : Nat} {vs : List Value} (hne : b ≠ b2) (hv : vs.all scal = true) : optAll (renV (idx [b, b2]) dep) (sl b off n c :: sl b2 off2 m c2 :: vs) = some (sl 0 off n c :: sl 1 off2 m c2 :: vs) := by
  have e1 : renV (idx [b, b2]) dep (sl b off n c) = some (sl 0 off n c) := by simp [renV, dep, idx, nbeq]
  have e2 : renV (idx [b, b2]) dep (sl b2 off2 m c2) = some (sl 1 off2 m c2) := by simp [renV, dep, idx, nbeq, hne, hne.symm]
  have e3 : ∀ vs : List Value, vs.all scal = true → optAll (renV (idx [b, b2]) dep) vs = some vs := by
    intro vs hv
    induction vs with
    | nil => rfl
    | cons v vs ih =>
      simp only [List.all_cons, Bool.and_eq_true] at hv
      have e : renV (idx [b, b2]) dep v = some v := by cases v <;> simp [scal] at hv <;> rfl
      simp only [optAll, e, ih hv.2]
  simp only [optAll, e1, e2, e3 vs hv]
section
variable (b off n c b2 off2 m c2 : Nat) {cs cs2 : List Value} {own own2 : Bool} {l : Nat → Int × Int} {o : Nat → Int} {h : List Blk}
  (hb : h[b]? = some (.cells cs 2 true own)) (hb2 : h[b2]? = some (.cells cs2 1 true own2)) (hne : b ≠ b2) (hc : SpC cs off n l) (hc2 : InC cs2 off2 m o)
include hb hb2 hne hc hc2
theorem k72 (hn : n ≤ 60) : callH LL 72 [sl b off n c, sl b2 off2 m c2] h = some ⟨iv (ordS l n o m), h, [b, b2], []⟩ := by
  refine callH_2 rfl hb hb2 hne noIdB_flat noIdB_flat (so_ren hne rfl) (go (by decide) ?_) fun _ => rfl
  rw [run72 _ _ _ (by simp)]
  have a := fun bx => k45 0 off n c (h := .cells cs 2 true own :: bx) rfl hc hn
  unfold ordS
  by_cases h1 : chkS l n = 0
  · have n30 : n ≤ 30 := by
      unfold chkS at h1
      by_cases h0 : n = 0
      · omega
      · rw [if_neg h0] at h1
        by_cases h2 : 30 < n
        · rw [if_pos h2] at h1; omega
        · omega
    rw [h1] at a
    by_cases h2 : m = n
    · have this := l72 off n c off2 m c2 cs cs2 own own2 o hc2 n30 h2 m 0 (by omega) (fun j hj => by omega)
      have h2' : (m : Int) = n := by omega
      rw [show maskN o 0 = 0 from rfl, show wv 0 = .int .u32 0 from rfl] at this
      simp only [Int.natCast_zero] at this
      by_cases h3 : ordL o n m 0 = 0
      · rw [if_pos h3] at this
        subst h2
        simp (maxSteps := 1000000) (disch := first | omega | decide | assumption | simp [scal]) [lenA_sl lk_24, lenA_sl lk_78, o_indexAddrS es_24, loadA_eq ia_3, a, h1, h3, this]
      · rw [if_neg h3] at this
        subst h2
        simp (maxSteps := 1000000) (disch := first | omega | decide | assumption | simp [scal]) [lenA_sl lk_24, lenA_sl lk_78, o_indexAddrS es_24, loadA_eq ia_3, a, h1, h3, this]
    · have h2' : ¬ (m : Int) = n := by omega
      simp (maxSteps := 1000000) (disch := first | omega | decide | assumption | simp [scal]) [lenA_sl lk_24, lenA_sl lk_78, o_indexAddrS es_24, loadA_eq ia_3, a, h1, h2, h2']
  · simp (maxSteps := 1000000) (disch := first | omega | decide | assumption | simp [scal]) [lenA_sl lk_24, lenA_sl lk_78, o_indexAddrS es_24, loadA_eq ia_3, a, h1]
end
end Go.Proofs.Ytfccmddkblbeoaa.rk
namespace Go.Proofs.Ytfccmddkblbeoaa.rk
open Go.GE
set_option linter.unusedVariables false
set_option linter.unusedSimpArgs false
set_option linter.unusedSectionVars false
set_option maxRecDepth 100000
set_option maxHeartbeats 4000000
attribute [local simp] runOps_nil runOps_cons runOpsF_nil runOpsF_cons fstS_some fstF_some opStep_eq want_none oStep_true oStep_false fin_pure fin_read fin_alloc fin_write storeB wrN cellV addWr o_move o_assign o_pick o_alloc o_box o_load o_store o_nilCheck o_bin o_un o_extract o_callV o_callB o_callI callV_f callV_y callV_fc o_makeFunc partsA Instr.fill builtin_len builtin_max2 bin_add bin_sub bin_mul bin_quo bin_rem bin_lss bin_leq bin_gtr bin_geq bin_eql bin_neq un_neg un_not bin_shr bin_shl wrap_u64_id opd opds optAll putO nbeq nblt constOk isC ops sub cl cr co bodyOf thenS_normal thenS_ret thenS_exit thenS_goto afterN_normal afterN_ret afterN_exit afterN_goto condS_true condS_false blockS_normal blockS_ret blockS_exit blockS_goto headS normS normK_eq fixS_nil fixS_cons fix1 fixV emptyB keepO_nil keepO_cons roundC_normal roundC_exit roundC_ret roundC_goto sweep_eq sweepD rnm pickR pickW rootsB ptrT renT ptrFn renFn ptrB_flat ptrB_non renB_flat renB_non plainS_some drawS_some fpsOk disj unord range' dropTo enumT undef wrap_i64_id Value.cells mkCells ptrTo scal cellsAt rdN endS_ret resultsA Option.bind_some tupV finish reachN dep ptrL_eq ptrL renL_eq renL ptrV_bool ptrV_int ptrV_string ptrV_nilFunc ptrV_nilIface ptrV_nilPtr ptrV_ptr ptrV_nilSl ptrV_sl ptrV_iface ptrV_agg ptrV_tuple ptrV_func renV_bool renV_int renV_string renV_nilFunc renV_nilIface renV_nilPtr renV_ptr renV_nilSl renV_sl renV_iface renV_agg renV_tuple renV_func gotoS_goto gotoS_normal gotoS_exit gotoS_ret skip_seq sliceE bnd bndHi intOf optOpd keepT_nil keepT_cons keepC_t keepC_f lk_nil lk_cons lkC_t lkC_f has_nil has_cons hasC_t hasC_f rep_nil rep_cons repC_t repC_f put_eq putC_t putC_f mem_nil mem_cons memC_t memC_f idx_nil idx_cons idxC_t idxC_f reach_nil reachP_cons reachQ_t reachQ_f ptrB_dead renB_dead ins_eq
attribute [local simp] n73_1s n73_4s n73_8s n73_11s n73_12s n73_10s n73_16s n73_18s n73_23s n73_25s n73_26s n73_24s n73_22s n73_30s n73_33s n73_34s n73_32s n73_35s n73_31s n73_29s n73_28s n73_36s n73_27s n73_21s n73_20s n73_20g n73_19s n73_17s n73_15s n73_14s n73_37s n73_13s n73_9s n73_7s n73_6s n73_6g n73_5s n73_3s n73_39s n73_40s n73_38s n73_2s n73_0s Try.f73
/-- the place q of a fault at p -/
def fltQ (l : Nat → Int × Int) (o : Nat → Int) (p : Nat) : Nat → Nat → Option Nat
  | 0, _ => none
  | k + 1, q => if quiet l (o q).toNat (o p).toNat = true then some q else fltQ l o p k (q + 1)
def fltP (l : Nat → Int × Int) (o : Nat → Int) (m : Nat) : Nat → Nat → Option (Nat × Nat)
  | 0, _ => none
  | k + 1, p => match fltQ l o p (m - (p + 1)) (p + 1) with
    | some q => some (p, q)
    | none => fltP l o m k (p + 1)
section
variable (off n c off2 m c2 : Nat) (cs cs2 : List Value) (own own2 : Bool) (l : Nat → Int × Int) (o : Nat → Int)
  (hc : SpC cs off n l) (hc2 : InC cs2 off2 m o) (hm : m ≤ 60) (ho : ∀ j, j < m → 0 ≤ o j ∧ o j < n)
include hc hc2 hm ho
theorem l73i (p : Nat) (hp : p < m) : ∀ k q : Nat, q + k = m →
    lpB Try.prog LL ⟨73, 35, 2, none⟩ n73_20 n73_21 ⟨[(7, iv p), (8, iv q), (0, sl 0 off n c), (1, sl 1 off2 m c2), (10, iv m), (11, iv p)], [.cells cs 2 true own, .cells cs2 1 true own2], []⟩ =
      match fltQ l o p k q with
      | none => some (.exit 2, ⟨[(0, sl 0 off n c), (1, sl 1 off2 m c2), (10, iv m), (11, iv p)], [.cells cs 2 true own, .cells cs2 1 true own2], []⟩)
      | some q' => some (.ret, ⟨[(4, iv p), (5, iv q'), (6, .bool true)], [.cells cs 2 true own, .cells cs2 1 true own2], []⟩) := by
  intro k
  induction k with
  | zero =>
    intro q hq
    obtain rfl : q = m := by omega
    rw [lpB_eq]
    simp (maxSteps := 1000000) (disch := first | omega | decide | assumption | simp [scal]) [lenA_sl lk_24, o_indexAddrS es_24, loadA_eq ia_3, fltQ]
  | succ k ih =>
    intro q hq
    have e1 : q < m := by omega
    have e1' : (q : Int) < m := by omega
    have e3 := hc2 q e1
    have e4 := hc2 p hp
    have this := ih (q + 1) (by omega)
    obtain ⟨x, hx⟩ : ∃ x : Nat, o q = x := ⟨(o q).toNat, by have := ho q e1; omega⟩
    obtain ⟨y, hy⟩ : ∃ y : Nat, o p = y := ⟨(o p).toNat, by have := ho p hp; omega⟩
    have a := fun bx => k77 0 off n c (h := .cells cs 2 true own :: bx) rfl hc x y (by have := ho q e1; omega) (by have := ho p hp; omega)
    unfold fltQ
    simp only [cast1] at this
    rw [hx] at e3
    rw [hy] at e4
    rw [hx, hy, Int.toNat_natCast, Int.toNat_natCast]
    rw [lpB_eq]
    cases h1 : quiet l x y <;> rw [h1] at a
    · simp (maxSteps := 1000000) (disch := first | omega | decide | assumption | simp [scal]) [lenA_sl lk_24, o_indexAddrS es_24, loadA_eq ia_3, e1, e1', e3, e4, hp, a, this]
    · simp (maxSteps := 1000000) (disch := first | omega | decide | assumption | simp [scal]) [lenA_sl lk_24, o_indexAddrS es_24, loadA_eq ia_3, e1, e1', e3, e4, hp, a]
theorem l73 : ∀ k p : Nat, p + k = m →
    lpB Try.prog LL ⟨73, 35, 2, none⟩ n73_6 n73_7 ⟨[(0, sl 0 off n c), (1, sl 1 off2 m c2), (10, iv m), (11, iv p)], [.cells cs 2 true own, .cells cs2 1 true own2], []⟩ =
      match fltP l o m k p with
      | none => some (.exit 0, ⟨[], [.cells cs 2 true own, .cells cs2 1 true own2], []⟩)
      | some r => some (.ret, ⟨[(4, iv r.1), (5, iv r.2), (6, .bool true)], [.cells cs 2 true own, .cells cs2 1 true own2], []⟩) := by
  intro k
  induction k with
  | zero =>
    intro p hp
    obtain rfl : p = m := by omega
    rw [lpB_eq]
    simp (maxSteps := 1000000) (disch := first | omega | decide | assumption | simp [scal]) [lenA_sl lk_24, o_indexAddrS es_24, loadA_eq ia_3, fltP]
  | succ k ih =>
    intro p hp
    have e1 : p < m := by omega
    have e1' : (p : Int) < m := by omega
    have this := ih (p + 1) (by omega)
    have inn := l73i off n c off2 m c2 cs cs2 own own2 l o hc hc2 hm ho p e1 (m - (p + 1)) (p + 1) (by omega)
    unfold fltP
    simp only [cast1] at this inn
    rw [lpB_eq]
    cases h1 : fltQ l o p (m - (p + 1)) (p + 1) with
    | none =>
      rw [h1] at inn
      simp (maxSteps := 1000000) (disch := first | omega | decide | assumption | simp [scal]) [lenA_sl lk_24, o_indexAddrS es_24, loadA_eq ia_3, e1, e1', inn, this]
    | some q =>
      rw [h1] at inn
      simp (maxSteps := 1000000) (disch := first | omega | decide | assumption | simp [scal]) [lenA_sl lk_24, o_indexAddrS es_24, loadA_eq ia_3, e1, e1', inn]
end
theorem ord_ok {l : Nat → Int × Int} {n : Nat} {o : Nat → Int} {m : Nat} (h : ordS l n o m = 0) : m = n ∧ n ≤ 30 ∧ ∀ j, j < m → 0 ≤ o j ∧ o j < n := by
  unfold ordS at h
  by_cases h1 : chkS l n = 0
  · rw [if_neg (by simp [h1])] at h
    by_cases h2 : m = n
    · rw [if_neg (by simp [h2])] at h
      refine ⟨h2, ?_, ?_⟩
      · unfold chkS at h1
        by_cases h0 : n = 0
        · omega
        · rw [if_neg h0] at h1
          by_cases h2 : 30 < n
          · rw [if_pos h2] at h1; omega
          · omega
      · have key : ∀ k i, ordL o n k i = 0 → ∀ j, i ≤ j → j < i + k → 0 ≤ o j ∧ o j < n := by
          intro k
          induction k with
          | zero => intro i _ j h3 h4; omega
          | succ k ih =>
            intro i hk j h3 h4
            unfold ordL at hk
            cases h5 : (decide (0 ≤ o i) && decide (o i ≤ (n : Int) - 1))
            · rw [if_pos h5] at hk; omega
            · rw [if_neg (by simp [h5])] at hk
              by_cases h6 : seenK o (o i) i 0 = true
              · rw [if_pos h6] at hk; omega
              · rw [if_neg h6] at hk
                simp only [Bool.and_eq_true, decide_eq_true_eq] at h5
                by_cases hj : j = i
                · subst hj; omega
                · exact ih (i + 1) hk j (by omega) (by omega)
        intro j hj
        exact key m 0 h j (by omega) (by omega)
    · rw [if_pos h2] at h; omega
  · rw [if_pos h1] at h; omega
def posS (l : Nat → Int × Int) (n : Nat) (o : Nat → Int) (m : Nat) : Int := if ordS l n o m ≠ 0 then ordS l n o m else if (fltP l o m m 0).isSome then 13 else 0
section
variable (b off n c b2 off2 m c2 : Nat) {cs cs2 : List Value} {own own2 : Bool} {l : Nat → Int × Int} {o : Nat → Int} {h : List Blk}
  (hb : h[b]? = some (.cells cs 2 true own)) (hb2 : h[b2]? = some (.cells cs2 1 true own2)) (hne : b ≠ b2) (hc : SpC cs off n l) (hc2 : InC cs2 off2 m o)
include hb hb2 hne hc hc2
theorem k73 (hm : m ≤ 60) (ho : ∀ j, j < m → 0 ≤ o j ∧ o j < n) : callH LL 73 [sl b off n c, sl b2 off2 m c2] h = some ⟨match fltP l o m m 0 with | none => .tuple #[iv 0, iv 0, .bool false] | some r => .tuple #[iv r.1, iv r.2, .bool true], h, [b, b2], []⟩ := by
  refine callH_2 rfl hb hb2 hne noIdB_flat noIdB_flat (so_ren hne rfl) (go (by decide) ?_) fun _ => by split <;> rfl
  rw [run73 _ _ _ (by simp)]
  have this := l73 off n c off2 m c2 cs cs2 own own2 l o hc hc2 hm ho m 0 (by omega)
  simp only [Int.natCast_zero] at this
  cases h1 : fltP l o m m 0 with
  | none =>
    rw [h1] at this
    simp (maxSteps := 1000000) (disch := first | omega | decide | assumption | simp [scal]) [lenA_sl lk_24, o_indexAddrS es_24, loadA_eq ia_3, this]
  | some r =>
    rw [h1] at this
    simp (maxSteps := 1000000) (disch := first | omega | decide | assumption | simp [scal]) [lenA_sl lk_24, o_indexAddrS es_24, loadA_eq ia_3, this]
end
end Go.Proofs.Ytfccmddkblbeoaa.rk
namespace Go.Proofs.Ytfccmddkblbeoaa.rk
open Go.GE
set_option linter.unusedVariables false
set_option linter.unusedSimpArgs false
set_option linter.unusedSectionVars false
set_option maxRecDepth 100000
set_option maxHeartbeats 4000000
attribute [local simp] runOps_nil runOps_cons runOpsF_nil runOpsF_cons fstS_some fstF_some opStep_eq want_none oStep_true oStep_false fin_pure fin_read fin_alloc fin_write storeB wrN cellV addWr o_move o_assign o_pick o_alloc o_box o_load o_store o_nilCheck o_bin o_un o_extract o_callV o_callB o_callI callV_f callV_y callV_fc o_makeFunc partsA Instr.fill builtin_len builtin_max2 bin_add bin_sub bin_mul bin_quo bin_rem bin_lss bin_leq bin_gtr bin_geq bin_eql bin_neq un_neg un_not bin_shr bin_shl wrap_u64_id opd opds optAll putO nbeq nblt constOk isC ops sub cl cr co bodyOf thenS_normal thenS_ret thenS_exit thenS_goto afterN_normal afterN_ret afterN_exit afterN_goto condS_true condS_false blockS_normal blockS_ret blockS_exit blockS_goto headS normS normK_eq fixS_nil fixS_cons fix1 fixV emptyB keepO_nil keepO_cons roundC_normal roundC_exit roundC_ret roundC_goto sweep_eq sweepD rnm pickR pickW rootsB ptrT renT ptrFn renFn ptrB_flat ptrB_non renB_flat renB_non plainS_some drawS_some fpsOk disj unord range' dropTo enumT undef wrap_i64_id Value.cells mkCells ptrTo scal cellsAt rdN endS_ret resultsA Option.bind_some tupV finish reachN dep ptrL_eq ptrL renL_eq renL ptrV_bool ptrV_int ptrV_string ptrV_nilFunc ptrV_nilIface ptrV_nilPtr ptrV_ptr ptrV_nilSl ptrV_sl ptrV_iface ptrV_agg ptrV_tuple ptrV_func renV_bool renV_int renV_string renV_nilFunc renV_nilIface renV_nilPtr renV_ptr renV_nilSl renV_sl renV_iface renV_agg renV_tuple renV_func gotoS_goto gotoS_normal gotoS_exit gotoS_ret skip_seq sliceE bnd bndHi intOf optOpd keepT_nil keepT_cons keepC_t keepC_f lk_nil lk_cons lkC_t lkC_f has_nil has_cons hasC_t hasC_f rep_nil rep_cons repC_t repC_f put_eq putC_t putC_f mem_nil mem_cons memC_t memC_f idx_nil idx_cons idxC_t idxC_f reach_nil reachP_cons reachQ_t reachQ_f ptrB_dead renB_dead ins_eq
attribute [local simp] n37_1s n37_4s n37_6s n37_9s n37_10s n37_8s n37_11s n37_7s n37_5s n37_3s n37_14s n37_16s n37_19s n37_20s n37_18s n37_21s n37_17s n37_15s n37_13s n37_23s n37_24s n37_22s n37_12s n37_2s n37_0s Try.f37
section
variable (b off n c b2 off2 m c2 : Nat) {cs cs2 : List Value} {own own2 : Bool} {l : Nat → Int × Int} {o : Nat → Int} {h : List Blk}
  (hb : h[b]? = some (.cells cs 2 true own)) (hb2 : h[b2]? = some (.cells cs2 1 true own2)) (hne : b ≠ b2) (hc : SpC cs off n l) (hc2 : InC cs2 off2 m o)
include hb hb2 hne hc hc2
theorem k37 (hn : n ≤ 60) : callH LL 37 [sl b off n c, sl b2 off2 m c2] h = some ⟨iv (posS l n o m), h, [b, b2], []⟩ := by
  refine callH_2 rfl hb hb2 hne noIdB_flat noIdB_flat (so_ren hne rfl) (go (by decide) ?_) fun _ => rfl
  rw [run37 _ _ _ (by simp)]
  have a := fun bx => k72 0 off n c 1 off2 m c2 (h := .cells cs 2 true own :: .cells cs2 1 true own2 :: bx) rfl rfl (by decide) hc hc2 hn
  unfold posS
  by_cases h1 : ordS l n o m = 0
  · obtain ⟨h2, h3, h4⟩ := ord_ok h1
    have a1 := fun bx => k73 0 off n c 1 off2 m c2 (h := .cells cs 2 true own :: .cells cs2 1 true own2 :: bx) rfl rfl (by decide) hc hc2 (by omega) h4
    rw [h1] at a
    cases h5 : fltP l o m m 0 with
    | none =>
      rw [h5] at a1
      simp (maxSteps := 1000000) (disch := first | omega | decide | assumption | simp [scal]) [a, h1, a1]
    | some r =>
      rw [h5] at a1
      simp (maxSteps := 1000000) (disch := first | omega | decide | assumption | simp [scal]) [a, h1, a1]
  · simp (maxSteps := 1000000) (disch := first | omega | decide | assumption | simp [scal]) [a, h1]
end
end Go.Proofs.Ytfccmddkblbeoaa.rk
namespace Go.Proofs.Ytfccmddkblbeoaa.rk
open Go.GE
set_option linter.unusedVariables false
set_option linter.unusedSimpArgs false
set_option linter.unusedSectionVars false
set_option maxRecDepth 100000
set_option maxHeartbeats 4000000
section
open Go.ChangeShapes Go.WideShapes Go.RowKit
variable {H : Type} {enc : TypeId × Value → H} {W : World} {base b0 : Nat} {v : Value} {d : DataW H} {p : List MemPlace}
abbrev spG (p : Int × Int) : List Value := [iv p.1, iv p.2]
end
end Go.Proofs.Ytfccmddkblbeoaa.rk
namespace Go.GE
theorem rdN_mid (cs : List Value) : ∀ (k o : Nat), o + k ≤ cs.length → rdN cs o k = some ((cs.drop o).take k) := by
  intro k
  induction k with
  | zero => intro o h; simp [rdN]
  | succ k ih =>
    intro o h
    have h1 := ih (o + 1) (by omega)
    have h2 : o < cs.length := by omega
    unfold rdN
    rw [h1]
    simp only [List.getElem?_eq_getElem h2]
    rw [← List.getElem_cons_drop h2]
    rfl
/-- elements of another block are added to a list's cells -/
theorem app_src {h h' : List Blk} {b c k by' l b2 o2 n c2 : Nat} {cs cs2 : List Value} {own : Bool} {k' : Nat} (hlen : cs.length = l * k) (hb : h'[b2]? = some (.cells cs2 k' true own)) (ho : o2 + n * k ≤ cs2.length) (h0 : 0 < n)
    (hl : (l + n) * by' ≤ 2 ^ 46) (hl2 : l + n ≤ 2 ^ 46) (hn : cs2.all cellV = true) :
    appS h k by' b 0 l c (some (.cells cs k true true)) (srcCells h' k (.slice (some ⟨b2, o2, none⟩) n c2)) = some ⟨.slice (some ⟨h.length, 0, none⟩) (l + n) (l + n), h.set b .dead ++ [.cells (cs ++ (cs2.drop o2).take (n * k)) k true true], [b, b2], [b]⟩ := by
  obtain ⟨m, rfl⟩ : ∃ m, n = m + 1 := ⟨n - 1, by omega⟩
  have hr := rdN_all cs (l * k) 0 (by omega)
  have hs := rdN_mid cs2 ((m + 1) * k) o2 ho
  have ha : ((cs2.drop o2).take ((m + 1) * k)).all cellV = true := by
    rw [List.all_eq_true] at hn ⊢
    exact fun v hv => hn v (List.mem_of_mem_drop (List.mem_of_mem_take hv))
  simp only [srcCells, hb, hs, Option.map_some, Bool.true_or, appS, hr, List.drop_zero]
  rw [if_pos ⟨hl, hl2, by trivial, ha⟩]
  rfl
theorem app_src0 {h h' : List Blk} {b c k by' l b2 o2 c2 : Nat} {blk : Option Blk} : appS h k by' b 0 l c blk (srcCells h' k (.slice (some ⟨b2, o2, none⟩) 0 c2)) = some ⟨.slice (some ⟨b, 0, none⟩) l c, h, [], []⟩ := by
  simp only [srcCells, appS]
end Go.GE
namespace Go.Proofs.Ytfccmddkblbeoaa.rk
open Go.GE
set_option linter.unusedVariables false
set_option linter.unusedSimpArgs false
set_option linter.unusedSectionVars false
set_option maxRecDepth 100000
attribute [local simp] runOps_nil runOps_cons runOpsF_nil runOpsF_cons fstS_some fstF_some opStep_eq want_none oStep_true oStep_false fin_pure fin_read fin_alloc fin_write storeB wrN cellV addWr o_move o_assign o_pick o_alloc o_box o_load o_store o_nilCheck o_bin o_un o_extract o_callV o_callB o_callI callV_f callV_y callV_fc o_makeFunc partsA Instr.fill builtin_len builtin_max2 bin_add bin_sub bin_mul bin_quo bin_rem bin_lss bin_leq bin_gtr bin_geq bin_eql bin_neq un_neg un_not bin_shr bin_shl wrap_u64_id opd opds optAll putO nbeq nblt constOk isC ops sub cl cr co bodyOf thenS_normal thenS_ret thenS_exit thenS_goto afterN_normal afterN_ret afterN_exit afterN_goto condS_true condS_false blockS_normal blockS_ret blockS_exit blockS_goto headS normS normK_eq fixS_nil fixS_cons fix1 fixV emptyB keepO_nil keepO_cons roundC_normal roundC_exit roundC_ret roundC_goto sweep_eq sweepD rnm pickR pickW rootsB ptrT renT ptrFn renFn ptrB_flat ptrB_non renB_flat renB_non plainS_some drawS_some fpsOk disj unord range' dropTo enumT undef wrap_i64_id Value.cells mkCells ptrTo scal cellsAt rdN endS_ret resultsA Option.bind_some tupV finish reachN dep ptrL_eq ptrL renL_eq renL ptrV_bool ptrV_int ptrV_string ptrV_nilFunc ptrV_nilIface ptrV_nilPtr ptrV_ptr ptrV_nilSl ptrV_sl ptrV_iface ptrV_agg ptrV_tuple ptrV_func renV_bool renV_int renV_string renV_nilFunc renV_nilIface renV_nilPtr renV_ptr renV_nilSl renV_sl renV_iface renV_agg renV_tuple renV_func gotoS_goto gotoS_normal gotoS_exit gotoS_ret skip_seq sliceE bnd bndHi intOf optOpd keepT_nil keepT_cons keepC_t keepC_f lk_nil lk_cons lkC_t lkC_f has_nil has_cons hasC_t hasC_f rep_nil rep_cons repC_t repC_f put_eq putC_t putC_f mem_nil mem_cons memC_t memC_f idx_nil idx_cons idxC_t idxC_f reach_nil reachP_cons reachQ_t reachQ_f ptrB_dead renB_dead ins_eq
attribute [local simp] n44_1s n44_3s n44_6s n44_11s n44_13s n44_14s n44_12s n44_10s n44_17s n44_16s n44_18s n44_15s n44_9s n44_8s n44_8g n44_7s n44_5s n44_20s n44_21s n44_19s n44_4s n44_2s n44_0s Try.f44 n35_1s n35_3s n35_6s n35_11s n35_13s n35_14s n35_12s n35_10s n35_18s n35_19s n35_17s n35_16s n35_20s n35_15s n35_9s n35_8s n35_8g n35_7s n35_5s n35_23s n35_25s n35_26s n35_24s n35_22s n35_28s n35_29s n35_27s n35_21s n35_4s n35_2s n35_0s Try.f35
set_option maxHeartbeats 4000000
abbrev uv (n : Nat) : Value := .int .u8 (n : Int)
/-- cells of a weather's days: pairs of bytes -/
def WeC (cs : List Value) (off n : Nat) (g : Nat → Nat × Nat) : Prop := ∀ i, i < n → (cs[off + i * 2]? = some (uv (g i).1) ∧ cs[off + i * 2 + 1]? = some (uv (g i).2)) ∧ (g i).1 < 256 ∧ (g i).2 < 256
def madD (g : Nat → Nat × Nat) (i : Nat) : Int × Int := (((g i).1 : Int) % 14, ((g i).1 : Int) % 14 + ((g i).2 : Int) % 6)
def madR (g : Nat → Nat × Nat) (n : Nat) : List (Int × Int) := if n = 0 then [(3, 4)] else (List.range (min n 5)).map (madD g)
theorem tm14 {z : Nat} : ((z : Int).tmod 14) = (z : Int) % 14 := Int.tmod_eq_emod_of_nonneg (by omega)
theorem tm6 {z : Nat} : ((z : Int).tmod 6) = (z : Int) % 6 := Int.tmod_eq_emod_of_nonneg (by omega)
/-- a list of spans as a block; a list as a month -/
abbrev spB (A : List (Int × Int)) : Blk := .cells (A.flatMap spG) 2 true true
def spAt (A : List (Int × Int)) (i : Nat) : Int × Int := A.getD i (0, 0)
theorem spAt_C (A : List (Int × Int)) : SpC (A.flatMap spG) 0 A.length (spAt A) := by
  intro i hi
  have hz : A[i]? = some (spAt A i) := by simp [spAt, hi]
  refine ⟨?_, ?_⟩
  · have := flat_get (g := spG) (k := 2) (fun _ => rfl) hz (j := 0) (by omega); simpa [spG] using this
  · have := flat_get (g := spG) (k := 2) (fun _ => rfl) hz (j := 1) (by omega); simpa [spG] using this
theorem k44 (h : List Blk) (b : Nat) (hb : h[b]? = some (.cells [iv 3, iv 4] 1 true true)) : callH LL 44 [sl b 0 2 2] h = some ⟨sl h.length 0 1 1, h ++ [.cells [iv 3, iv 4] 2 true true], [b], []⟩ := by
  refine callN_1 rfl hb noIdB_flat (args' := [sl 0 0 2 2]) (by simp [renV, dep, optAll, idx, nbeq]) (v := sl 1 0 1 1) (news := [.cells [iv 3, iv 4] 2 true true]) (go (by decide) ?_) (by intro blk hb; simp at hb; subst hb; exact noIdB_flat) (by simp [renV, dep])
  have l2 : lpB Try.prog LL ⟨44, 26, 1, none⟩ n44_8 n44_9 ⟨[(0, sl 0 0 2 2), (3, sl 1 0 1 1), (4, iv 2)], [.cells [iv 3, iv 4] 1 true true, .cells [iv 3, iv 4] 2 true true], []⟩ = some (.exit 0, ⟨[(3, sl 1 0 1 1)], [.cells [iv 3, iv 4] 1 true true, .cells [iv 3, iv 4] 2 true true], []⟩) := by
    rw [lpB_eq]
    simp (maxSteps := 1000000) (disch := first | omega | decide | assumption | simp [scal]) [lenA_sl lk_24, o_indexAddrS es_24, loadA_eq ia_3, za_55, o_build za_55 pl_55, o_indexAddrS es_22, ze_22, o_buildSlice es_22 ze_22 (by decide) ba_22_1, ap_22, builtin_append ni_22]
  have l1 : lpB Try.prog LL ⟨44, 26, 1, none⟩ n44_8 n44_9 ⟨[(0, sl 0 0 2 2), (3, sl 1 0 0 0), (4, iv 0)], [.cells [iv 3, iv 4] 1 true true, .cells [] 2 true true], []⟩ = some (.exit 0, ⟨[(3, sl 1 0 1 1)], [.cells [iv 3, iv 4] 1 true true, .cells [iv 3, iv 4] 2 true true], []⟩) := by
    have c1 := fun hp b c rd => app_list (h := hp) (b := b) (c := c) (k := 2) (by' := 16) (l := 0) (cs := []) (new := [iv 3, iv 4]) (rd := rd) rfl (by omega) (by omega) rfl
    rw [lpB_eq]
    simp (maxSteps := 1000000) (disch := first | omega | decide | assumption | simp [scal]) [lenA_sl lk_24, o_indexAddrS es_24, loadA_eq ia_3, za_55, o_build za_55 pl_55, o_indexAddrS es_22, ze_22, o_buildSlice es_22 ze_22 (by decide) ba_22_1, ap_22, builtin_append ni_22, append_some ap_22, srcCells, c1, l2]
  rw [run44 _ _ _ (by simp)]
  simp (maxSteps := 1000000) (disch := first | omega | decide | assumption | simp [scal]) [lenA_sl lk_24, o_indexAddrS es_24, loadA_eq ia_3, za_55, o_build za_55 pl_55, o_indexAddrS es_22, ze_22, o_buildSlice es_22 ze_22 (by decide) ba_22_1, ap_22, builtin_append ni_22, l1]
section
variable (off n c : Nat) {cs : List Value} {own : Bool} {g : Nat → Nat × Nat}
theorem l35 (hc : WeC cs off n g) : ∀ (q i : Nat), i + q = min n 5 →
    lpB Try.prog LL ⟨35, 43, 1, none⟩ n35_8 n35_9 ⟨[(0, sl 0 off n c), (3, sl 1 0 i i), (4, iv i)], [.cells cs 2 true own, spB ((List.range i).map (madD g))], []⟩ =
      some (.exit 0, ⟨[(3, sl 1 0 (min n 5) (min n 5))], [.cells cs 2 true own, spB ((List.range (min n 5)).map (madD g))], []⟩) := by
  intro q
  induction q with
  | zero =>
    intro i hi
    obtain rfl : i = min n 5 := by omega
    generalize (List.range (min n 5)).map (madD g) = F at *
    generalize hm : min n 5 = M at *
    rw [lpB_eq]
    by_cases e1 : M < n
    · have e2 : ¬ M < 5 := by omega
      have e3 : ¬ (M : Int) < 5 := by omega
      simp (maxSteps := 1000000) (disch := first | omega | decide | assumption | simp [scal]) [lenA_sl lk_47, o_indexAddrS es_47, o_indexAddrA ea_60, loadA_eq ia_5, o_convI cv_5_3, za_55, o_build za_55 pl_55, o_indexAddrS es_22, ze_22, o_buildSlice es_22 ze_22 (by decide) ba_22_1, ap_22, builtin_append ni_22, lenA_sl lk_22, o_indexAddrS es_24, ze_24, o_buildSlice es_24 ze_24 (by decide) ba_24_2, want_some q35_11g4, e1, e3]
    · simp (maxSteps := 1000000) (disch := first | omega | decide | assumption | simp [scal]) [lenA_sl lk_47, o_indexAddrS es_47, o_indexAddrA ea_60, loadA_eq ia_5, o_convI cv_5_3, za_55, o_build za_55 pl_55, o_indexAddrS es_22, ze_22, o_buildSlice es_22 ze_22 (by decide) ba_22_1, ap_22, builtin_append ni_22, lenA_sl lk_22, o_indexAddrS es_24, ze_24, o_buildSlice es_24 ze_24 (by decide) ba_24_2, want_some q35_11g4, e1]
  | succ q ih =>
    intro i hi
    have e1 : i < n := by omega
    have e3 : (i : Int) < 5 := by omega
    obtain ⟨⟨p1, p2⟩, g1, g2⟩ := hc _ e1
    have this := ih (i + 1) (by omega)
    have c1 := fun hp b c rd => app_list (h := hp) (b := b) (c := c) (k := 2) (by' := 16) (l := i) (cs := ((List.range i).map (madD g)).flatMap spG) (new := spG (madD g i)) (rd := rd) (by rw [flat_len (k := 2) (fun _ => rfl)]; simp) (by omega) (by omega) rfl
    simp only [spB] at this ⊢
    rw [List.range_succ, List.map_append, List.map_cons, List.map_nil, List.flatMap_append, List.flatMap_cons, List.flatMap_nil, List.append_nil] at this
    generalize (List.range (min n 5)).map (madD g) = F at *
    generalize ((List.range i).map (madD g)).flatMap spG = G at *
    rw [show spG (madD g i) = [iv (((g i).1 : Int) % 14), iv (((g i).1 : Int) % 14 + ((g i).2 : Int) % 6)] from rfl] at this c1
    generalize g i = y at *
    obtain ⟨y0, y1⟩ := y
    simp only [cast1] at this
    simp only [] at c1 p1 p2 g1 g2
    rw [lpB_eq]
    simp (maxSteps := 1000000) (disch := first | omega | decide | assumption | simp [scal]) [lenA_sl lk_47, o_indexAddrS es_47, o_indexAddrA ea_60, loadA_eq ia_5, o_convI cv_5_3, za_55, o_build za_55 pl_55, o_indexAddrS es_22, ze_22, o_buildSlice es_22 ze_22 (by decide) ba_22_1, ap_22, builtin_append ni_22, lenA_sl lk_22, o_indexAddrS es_24, ze_24, o_buildSlice es_24 ze_24 (by decide) ba_24_2, want_some q35_11g4, e1, e3, p1, p2, tm14, tm6, append_some ap_22, srcCells, c1, this]
variable (b : Nat) {h : List Blk} (hb : h[b]? = some (.cells cs 2 true own))
include hb
theorem k35 (hc : WeC cs off n g) : callH LL 35 [sl b off n c] h = some ⟨sl h.length 0 (madR g n).length (madR g n).length, h ++ [spB (madR g n)], [b], []⟩ := by
  refine callN_1 rfl hb noIdB_flat (args' := [sl 0 off n c]) (by simp [renV, dep, optAll, idx, nbeq]) (v := sl 1 0 (madR g n).length (madR g n).length) (news := [spB (madR g n)]) (go (by decide) ?_) (by intro blk hb; simp only [List.mem_singleton] at hb; subst hb; exact noIdB_flat) (by simp [renV, dep])
  have this := l35 off n c (own := own) hc (min n 5) 0 (by omega)
  simp only [spB, List.range_zero, List.map_nil, List.flatMap_nil, Int.natCast_zero] at this ⊢
  rw [run35 _ _ _ (by simp)]
  unfold madR
  by_cases h0 : n = 0
  · subst h0
    simp only [Nat.zero_min, List.range_zero, List.map_nil, List.flatMap_nil] at this
    have a := fun b0 b1 bx => k44 (b0 :: b1 :: .cells [iv 3, iv 4] 1 true true :: bx) 2 rfl
    simp (maxSteps := 1000000) (disch := first | omega | decide | assumption | simp [scal]) [lenA_sl lk_47, o_indexAddrS es_47, o_indexAddrA ea_60, loadA_eq ia_5, o_convI cv_5_3, za_55, o_build za_55 pl_55, o_indexAddrS es_22, ze_22, o_buildSlice es_22 ze_22 (by decide) ba_22_1, ap_22, builtin_append ni_22, lenA_sl lk_22, o_indexAddrS es_24, ze_24, o_buildSlice es_24 ze_24 (by decide) ba_24_2, want_some q35_11g4, this, a]
  · have hm : 0 < min n 5 := by omega
    have hm' : ¬ ((min n 5 : Nat) : Int) = 0 := by omega
    rw [if_neg h0]
    have hl : ((List.range (min n 5)).map (madD g)).length = min n 5 := by simp
    rw [hl]
    generalize (List.range (min n 5)).map (madD g) = F at *
    generalize min n 5 = M at *
    have h0' : ¬ M = 0 := by omega
    simp (maxSteps := 1000000) (disch := first | omega | decide | assumption | simp [scal]) [lenA_sl lk_47, o_indexAddrS es_47, o_indexAddrA ea_60, loadA_eq ia_5, o_convI cv_5_3, za_55, o_build za_55 pl_55, o_indexAddrS es_22, ze_22, o_buildSlice es_22 ze_22 (by decide) ba_22_1, ap_22, builtin_append ni_22, lenA_sl lk_22, o_indexAddrS es_24, ze_24, o_buildSlice es_24 ze_24 (by decide) ba_24_2, want_some q35_11g4, this, hm', h0']
end
end Go.Proofs.Ytfccmddkblbeoaa.rk
namespace Go.Proofs.Ytfccmddkblbeoaa.rk
open Go.GE
set_option linter.unusedVariables false
set_option linter.unusedSimpArgs false
set_option linter.unusedSectionVars false
set_option maxRecDepth 100000
set_option maxHeartbeats 4000000
attribute [local simp] runOps_nil runOps_cons runOpsF_nil runOpsF_cons fstS_some fstF_some opStep_eq want_none oStep_true oStep_false fin_pure fin_read fin_alloc fin_write storeB wrN cellV addWr o_move o_assign o_pick o_alloc o_box o_load o_store o_nilCheck o_bin o_un o_extract o_callV o_callB o_callI callV_f callV_y callV_fc o_makeFunc partsA Instr.fill builtin_len builtin_max2 bin_add bin_sub bin_mul bin_quo bin_rem bin_lss bin_leq bin_gtr bin_geq bin_eql bin_neq un_neg un_not bin_shr bin_shl wrap_u64_id opd opds optAll putO nbeq nblt constOk isC ops sub cl cr co bodyOf thenS_normal thenS_ret thenS_exit thenS_goto afterN_normal afterN_ret afterN_exit afterN_goto condS_true condS_false blockS_normal blockS_ret blockS_exit blockS_goto headS normS normK_eq fixS_nil fixS_cons fix1 fixV emptyB keepO_nil keepO_cons roundC_normal roundC_exit roundC_ret roundC_goto sweep_eq sweepD rnm pickR pickW rootsB ptrT renT ptrFn renFn ptrB_flat ptrB_non renB_flat renB_non plainS_some drawS_some fpsOk disj unord range' dropTo enumT undef wrap_i64_id Value.cells mkCells ptrTo scal cellsAt rdN endS_ret resultsA Option.bind_some tupV finish reachN dep ptrL_eq ptrL renL_eq renL ptrV_bool ptrV_int ptrV_string ptrV_nilFunc ptrV_nilIface ptrV_nilPtr ptrV_ptr ptrV_nilSl ptrV_sl ptrV_iface ptrV_agg ptrV_tuple ptrV_func renV_bool renV_int renV_string renV_nilFunc renV_nilIface renV_nilPtr renV_ptr renV_nilSl renV_sl renV_iface renV_agg renV_tuple renV_func gotoS_goto gotoS_normal gotoS_exit gotoS_ret skip_seq sliceE bnd bndHi intOf optOpd keepT_nil keepT_cons keepC_t keepC_f lk_nil lk_cons lkC_t lkC_f has_nil has_cons hasC_t hasC_f rep_nil rep_cons repC_t repC_f put_eq putC_t putC_f mem_nil mem_cons memC_t memC_f idx_nil idx_cons idxC_t idxC_f reach_nil reachP_cons reachQ_t reachQ_f ptrB_dead renB_dead ins_eq
attribute [local simp] n40_1s n40_3s n40_6s n40_11s n40_13s n40_14s n40_12s n40_10s n40_17s n40_16s n40_18s n40_15s n40_9s n40_8s n40_8g n40_7s n40_5s n40_21s n40_26s n40_28s n40_29s n40_27s n40_25s n40_33s n40_36s n40_38s n40_39s n40_37s n40_35s n40_41s n40_42s n40_40s n40_34s n40_32s n40_31s n40_43s n40_30s n40_24s n40_23s n40_23g n40_22s n40_20s n40_45s n40_46s n40_44s n40_19s n40_4s n40_2s n40_0s Try.f40
/-- numbers as cells -/
def nm (L : List Nat) : List Value := L.map fun (x : Nat) => iv x
theorem nm_len {L : List Nat} : (nm L).length = L.length := by simp [nm]
theorem nm_app {L M : List Nat} : nm (L ++ M) = nm L ++ nm M := by simp [nm]
theorem nm_one {x : Nat} : nm [x] = [iv x] := rfl
theorem nm_nil : nm [] = [] := rfl
theorem nm_take {L : List Nat} {i : Nat} : (nm L).take i = nm (L.take i) := by simp [nm]
theorem nm_drop {L : List Nat} {i : Nat} : (nm L).drop i = nm (L.drop i) := by simp [nm]
theorem nm_all {L : List Nat} : (nm L).all cellV = true := by
  rw [List.all_eq_true]
  intro v hv
  obtain ⟨x, _, rfl⟩ := List.mem_map.1 hv
  rfl
theorem nm_get {L : List Nat} {i : Nat} (h : i < L.length) : (nm L)[i]? = some (iv (L.getD i 0)) := by simp [nm, h]
def ntAt (L : List Nat) (i : Nat) : Int := (L.getD i 0 : Nat)
theorem nm_C (L : List Nat) : InC (nm L) 0 L.length (ntAt L) := by
  intro i hi
  rw [Nat.zero_add]
  exact nm_get hi
abbrev nB (L : List Nat) : Blk := .cells (nm L) 1 true true
/-- cells of bytes -/
def ByC (cs : List Value) (off m : Nat) (g : Nat → Nat) : Prop := ∀ i, i < m → cs[off + i]? = some (uv (g i)) ∧ g i < 256
def pckI (g : Nat → Nat) (m k len : Nat) : Nat := if k < m then g k % len else 0
/-- what 'shuffled' draws from a list -/
def shuL (g : Nat → Nat) (m : Nat) : Nat → Nat → List Nat → List Nat
  | 0, _, _ => []
  | q + 1, k, L => L.getD (pckI g m k L.length) 0 :: shuL g m q (k + 1) (L.eraseIdx (pckI g m k L.length))
theorem shu_len {g : Nat → Nat} {m : Nat} : ∀ {q k : Nat} {L : List Nat}, (shuL g m q k L).length = q := by
  intro q
  induction q with
  | zero => intro k L; rfl
  | succ q ih => intro k L; simp [shuL, ih]
theorem pck_lt {g : Nat → Nat} {m k len : Nat} (h : 0 < len) : pckI g m k len < len := by
  unfold pckI
  split
  · exact Nat.mod_lt _ h
  · exact h
theorem shu_perm {g : Nat → Nat} {m : Nat} : ∀ {q k : Nat} {L : List Nat}, L.length = q → (shuL g m q k L).Perm L := by
  intro q
  induction q with
  | zero => intro k L h; rw [List.eq_nil_of_length_eq_zero h]; exact List.Perm.refl _
  | succ q ih =>
    intro k L h
    have hi := pck_lt (g := g) (m := m) (k := k) (len := L.length) (by omega)
    unfold shuL
    generalize pckI g m k L.length = i at *
    have h1 := ih (k := k + 1) (L := L.eraseIdx i) (by rw [List.length_eraseIdx_of_lt hi]; omega)
    have h2 : L.getD i 0 = L[i] := by simp [hi]
    rw [h2]
    refine (h1.cons _).trans ?_
    rw [List.eraseIdx_eq_take_drop_succ]
    have h3 : L = L.take i ++ L[i] :: L.drop (i + 1) := by rw [List.getElem_cons_drop, List.take_append_drop]
    conv => rhs; rw [h3]
    exact List.perm_middle.symm
section
variable (off m c : Nat) {cs : List Value} {own : Bool} {g : Nat → Nat}
theorem l40a (n : Nat) (hn : n ≤ 5) : ∀ (q i : Nat), i + q = n →
    lpB Try.prog LL ⟨40, 54, 1, none⟩ n40_8 n40_9 ⟨[(0, iv n), (1, sl 0 off m c), (5, sl 1 0 i i), (6, sl 2 0 0 0), (7, iv i)], [.cells cs 1 true own, nB (List.range i), nB []], []⟩ =
      some (.exit 0, ⟨[(1, sl 0 off m c), (5, sl 1 0 n n), (6, sl 2 0 0 0)], [.cells cs 1 true own, nB (List.range n), nB []], []⟩) := by
  intro q
  induction q with
  | zero =>
    intro i hi
    obtain rfl : i = n := by omega
    simp only [nB]
    generalize nm (List.range i) = F at *
    rw [lpB_eq]
    simp (maxSteps := 1000000) (disch := first | omega | decide | assumption | simp [scal]) [o_indexAddrS es_24, ze_24, o_buildSlice es_24 ze_24 (by decide) ba_24_1, ap_24, builtin_append ni_24, lenA_sl lk_24, lenA_sl lk_53, o_indexAddrS es_53, loadA_eq ia_5, o_convI cv_5_3, loadA_eq ia_3, o_buildSlice es_24 ze_24 (by decide) ba_24_0, o_sliceS sl_24]
  | succ q ih =>
    intro i hi
    have e1 : (i : Int) < n := by omega
    have this := ih (i + 1) (by omega)
    have c1 := fun hp b c rd => app_list (h := hp) (b := b) (c := c) (k := 1) (by' := 8) (l := i) (cs := nm (List.range i)) (new := [iv i]) (rd := rd) (by rw [nm_len]; simp) (by omega) (by omega) rfl
    simp only [nB] at this ⊢
    rw [List.range_succ, nm_app, nm_one] at this
    generalize nm (List.range n) = F at *
    generalize nm (List.range i) = G at *
    simp only [cast1] at this
    rw [lpB_eq]
    simp (maxSteps := 1000000) (disch := first | omega | decide | assumption | simp [scal]) [o_indexAddrS es_24, ze_24, o_buildSlice es_24 ze_24 (by decide) ba_24_1, ap_24, builtin_append ni_24, lenA_sl lk_24, lenA_sl lk_53, o_indexAddrS es_53, loadA_eq ia_5, o_convI cv_5_3, loadA_eq ia_3, o_buildSlice es_24 ze_24 (by decide) ba_24_0, o_sliceS sl_24, e1, append_some ap_24, srcCells, c1, this]
theorem l40b (hc : ByC cs off m g) : ∀ (q k : Nat) (L O : List Nat), L.length = q → O.length + q ≤ 5 → k + q ≤ 5 →
    lpB Try.prog LL ⟨40, 54, 1, none⟩ n40_23 n40_24 ⟨[(1, sl 0 off m c), (5, sl 1 0 L.length L.length), (6, sl 2 0 O.length O.length), (8, iv k)], [.cells cs 1 true own, nB L, nB O], []⟩ =
      some (.exit 2, ⟨[(6, sl 1 0 (O ++ shuL g m q k L).length (O ++ shuL g m q k L).length)], [.cells cs 1 true own, nB (O ++ shuL g m q k L)], []⟩) := by
  intro q
  induction q with
  | zero =>
    intro k L O hL hO hk
    obtain rfl : L = [] := List.eq_nil_of_length_eq_zero hL
    simp only [shuL, List.append_nil, nB]
    generalize nm O = F at *
    rw [lpB_eq]
    simp (maxSteps := 1000000) (disch := first | omega | decide | assumption | simp [scal]) [o_indexAddrS es_24, ze_24, o_buildSlice es_24 ze_24 (by decide) ba_24_1, ap_24, builtin_append ni_24, lenA_sl lk_24, lenA_sl lk_53, o_indexAddrS es_53, loadA_eq ia_5, o_convI cv_5_3, loadA_eq ia_3, o_buildSlice es_24 ze_24 (by decide) ba_24_0, o_sliceS sl_24]
  | succ q ih =>
    intro k L O hL hO hk
    have hi := pck_lt (g := g) (m := m) (k := k) (len := L.length) (by omega)
    unfold shuL
    obtain ⟨i, hpi⟩ : ∃ i, pckI g m k L.length = i := ⟨_, rfl⟩
    rw [hpi] at hi ⊢
    have this := ih (k + 1) (L.eraseIdx i) (O ++ [L.getD i 0]) (by rw [List.length_eraseIdx_of_lt hi]; omega) (by simp; omega) (by omega)
    have p1 := nm_get hi
    have c1 : ∀ (hp : List Blk) (b c : Nat) (y0 y1 y2 : Blk) (bx : List Blk), appS hp 1 8 b 0 O.length c (some (.cells (nm O) 1 true true)) (srcCells (y0 :: y1 :: y2 :: .cells [iv (L.getD i 0)] 1 true true :: bx) 1 (.slice (some ⟨3, 0, none⟩) 1 1)) =
        some ⟨.slice (some ⟨hp.length, 0, none⟩) (O.length + 1) (O.length + 1), hp.set b .dead ++ [.cells (nm O ++ [iv (L.getD i 0)]) 1 true true], [b, 3], [b]⟩ := fun hp b c y0 y1 y2 bx => by
      exact app_src (h := hp) (h' := y0 :: y1 :: y2 :: .cells [iv (L.getD i 0)] 1 true true :: bx) (b := b) (c := c) (k := 1) (by' := 8) (l := O.length) (b2 := 3) (o2 := 0) (n := 1) (c2 := 1) (cs := nm O) (cs2 := [iv (L.getD i 0)]) (by rw [nm_len]; simp) rfl (by simp) (by omega) (by omega) (by omega) rfl
    have s2 : ∀ (hp : List Blk) (b c : Nat) (y0 : Blk) (bx : List Blk), 0 < i → appS hp 1 8 b 0 0 c (some (.cells [] 1 true true)) (srcCells (y0 :: .cells (nm L) 1 true true :: bx) 1 (.slice (some ⟨1, 0, none⟩) i L.length)) =
        some ⟨.slice (some ⟨hp.length, 0, none⟩) i i, hp.set b .dead ++ [.cells (nm (L.take i)) 1 true true], [b, 1], [b]⟩ := fun hp b c y0 bx h0 => by
      have := app_src (h := hp) (h' := y0 :: .cells (nm L) 1 true true :: bx) (b := b) (c := c) (k := 1) (by' := 8) (l := 0) (b2 := 1) (o2 := 0) (n := i) (c2 := L.length) (cs := []) (cs2 := nm L) rfl rfl (by rw [nm_len]; omega) h0 (by omega) (by omega) nm_all
      rw [List.drop_zero, List.nil_append, Nat.zero_add, Nat.mul_one, nm_take] at this
      exact this
    have s3 : ∀ (hp : List Blk) (b c : Nat) (y0 : Blk) (bx : List Blk) (B : List Nat), B.length ≤ 5 → i + 1 < L.length → appS hp 1 8 b 0 B.length c (some (.cells (nm B) 1 true true)) (srcCells (y0 :: .cells (nm L) 1 true true :: bx) 1 (.slice (some ⟨1, i + 1, none⟩) (L.length - (i + 1)) (L.length - (i + 1)))) =
        some ⟨.slice (some ⟨hp.length, 0, none⟩) (B ++ L.drop (i + 1)).length (B ++ L.drop (i + 1)).length, hp.set b .dead ++ [.cells (nm (B ++ L.drop (i + 1))) 1 true true], [b, 1], [b]⟩ := fun hp b c y0 bx B hB h0 => by
      have := app_src (h := hp) (h' := y0 :: .cells (nm L) 1 true true :: bx) (b := b) (c := c) (k := 1) (by' := 8) (l := B.length) (b2 := 1) (o2 := i + 1) (n := L.length - (i + 1)) (c2 := L.length - (i + 1)) (cs := nm B) (cs2 := nm L) (by rw [nm_len]; simp) rfl (by rw [nm_len]; omega) (by omega) (by omega) (by omega) nm_all
      rw [nm_drop, List.take_of_length_le (by rw [nm_len, List.length_drop]; omega)] at this
      rw [this, List.length_append, List.length_drop, nm_app]
    have lt : (L.take i).length = i := by rw [List.length_take]; omega
    have hL5 : L.length ≤ 5 := by omega
    have b1 : 0 ≤ (i : Int) + 1 := by omega
    have b2 : (i : Int) + 1 ≤ (L.length : Int) := by omega
    have hi0 : i ≤ L.length := by omega
    have hpos : (0 : Int) < L.length := by omega
    have hpos' : 0 < L.length := by omega
    rw [List.eraseIdx_eq_take_drop_succ, List.append_assoc, List.singleton_append] at this
    have lz : ∀ x : Nat, (O ++ [x]).length = O.length + 1 := fun x => by simp
    rw [lz, nB, nB, nB, nm_app (L := O), nm_one] at this
    rw [nB, nB, nB, List.eraseIdx_eq_take_drop_succ]
    clear lz
    simp only [cast1] at this
    generalize hx : L.getD i 0 = x at *
    by_cases w : k < m
    · have w' : (k : Int) < m := by omega
      obtain ⟨w1, w2⟩ := hc k w
      unfold pckI at hpi
      rw [if_pos w] at hpi
      have e1 : ((g k : Nat) : Int).tmod (L.length : Int) = (i : Int) := by rw [Int.tmod_eq_emod_of_nonneg (by omega)]; omega
      have e2 : (L.length : Int) ≠ 0 := by omega
      clear hpi hc ih
      generalize g k = gk at *
      by_cases g0 : 0 < i
      · have s2 := fun hp b c y0 bx => s2 hp b c y0 bx g0
        by_cases g1 : i + 1 < L.length
        · have s3 := fun hp b c y0 bx => s3 hp b c y0 bx (L.take i) (by omega) g1
          rw [lt] at s3
          generalize shuL g m q (k + 1) (L.take i ++ L.drop (i + 1)) = R at *
          generalize L.take i ++ L.drop (i + 1) = D at *
          generalize nm (L.take i) = D1 at *
          generalize nm D = D2 at *
          generalize nm (O ++ x :: R) = F at *
          generalize (O ++ x :: R).length = Fn at *
          generalize nm L = M at *
          rw [lpB_eq]
          simp (maxSteps := 1000000) (disch := first | omega | decide | assumption | simp [scal]) [o_indexAddrS es_24, ze_24, o_buildSlice es_24 ze_24 (by decide) ba_24_1, ap_24, builtin_append ni_24, lenA_sl lk_24, lenA_sl lk_53, o_indexAddrS es_53, loadA_eq ia_5, o_convI cv_5_3, loadA_eq ia_3, o_buildSlice es_24 ze_24 (by decide) ba_24_0, o_sliceS sl_24, hpos, hpos', w, w', w1, e1, e2, p1, hi, hi0, b1, b2, c1, s2, s3, append_some ap_24, this]
        · have e0 : L.length - (i + 1) = 0 := by omega
          rw [List.drop_of_length_le (show L.length ≤ i + 1 by omega), List.append_nil, lt] at this
          rw [List.drop_of_length_le (show L.length ≤ i + 1 by omega), List.append_nil]
          generalize shuL g m q (k + 1) (L.take i) = R at *
          generalize nm (L.take i) = D1 at *
          generalize nm (O ++ x :: R) = F at *
          generalize (O ++ x :: R).length = Fn at *
          generalize nm L = M at *
          rw [lpB_eq]
          simp (maxSteps := 1000000) (disch := first | omega | decide | assumption | simp [scal]) [o_indexAddrS es_24, ze_24, o_buildSlice es_24 ze_24 (by decide) ba_24_1, ap_24, builtin_append ni_24, lenA_sl lk_24, lenA_sl lk_53, o_indexAddrS es_53, loadA_eq ia_5, o_convI cv_5_3, loadA_eq ia_3, o_buildSlice es_24 ze_24 (by decide) ba_24_0, o_sliceS sl_24, hpos, hpos', w, w', w1, e1, e2, p1, hi, hi0, b1, b2, c1, s2, e0, app_src0, append_some ap_24, this]
      · obtain rfl : i = 0 := by omega
        have b3 : (1 : Int) ≤ L.length := by omega
        by_cases g1 : 0 + 1 < L.length
        · have s3 := fun hp b c y0 bx => s3 hp b c y0 bx [] (by simp) g1
          simp only [List.take_zero, List.nil_append, List.length_nil, Nat.zero_add, nm_nil] at s3 this p1 ⊢
          generalize shuL g m q (k + 1) (L.drop 1) = R at *
          generalize L.drop 1 = D at *
          generalize nm D = D2 at *
          generalize nm (O ++ x :: R) = F at *
          generalize (O ++ x :: R).length = Fn at *
          generalize nm L = M at *
          rw [lpB_eq]
          simp (maxSteps := 1000000) (disch := first | omega | decide | assumption | simp [scal]) [o_indexAddrS es_24, ze_24, o_buildSlice es_24 ze_24 (by decide) ba_24_1, ap_24, builtin_append ni_24, lenA_sl lk_24, lenA_sl lk_53, o_indexAddrS es_53, loadA_eq ia_5, o_convI cv_5_3, loadA_eq ia_3, o_buildSlice es_24 ze_24 (by decide) ba_24_0, o_sliceS sl_24, hpos, hpos', w, w', w1, e1, e2, p1, b3, c1, s3, app_src0, append_some ap_24, this]
        · have e0 : L.length - 1 = 0 := by omega
          have e0' : L.length = 1 := by omega
          rw [List.drop_of_length_le (show L.length ≤ 0 + 1 by omega)] at this
          rw [List.drop_of_length_le (show L.length ≤ 0 + 1 by omega)]
          simp only [List.take_zero, List.nil_append, List.length_nil, Nat.zero_add, nm_nil] at this p1 ⊢
          generalize shuL g m q (k + 1) [] = R at *
          generalize nm (O ++ x :: R) = F at *
          generalize (O ++ x :: R).length = Fn at *
          generalize nm L = M at *
          rw [lpB_eq]
          simp (maxSteps := 1000000) (disch := first | omega | decide | assumption | simp [scal]) [o_indexAddrS es_24, ze_24, o_buildSlice es_24 ze_24 (by decide) ba_24_1, ap_24, builtin_append ni_24, lenA_sl lk_24, lenA_sl lk_53, o_indexAddrS es_53, loadA_eq ia_5, o_convI cv_5_3, loadA_eq ia_3, o_buildSlice es_24 ze_24 (by decide) ba_24_0, o_sliceS sl_24, hpos, hpos', w, w', w1, e1, e2, p1, b3, c1, e0, app_src0, append_some ap_24, this]
    · have w' : ¬ (k : Int) < m := by omega
      unfold pckI at hpi
      rw [if_neg w] at hpi
      clear hc ih
      obtain rfl : i = 0 := by omega
      have b3 : (1 : Int) ≤ L.length := by omega
      by_cases g1 : 0 + 1 < L.length
      · have s3 := fun hp b c y0 bx => s3 hp b c y0 bx [] (by simp) g1
        simp only [List.take_zero, List.nil_append, List.length_nil, Nat.zero_add, nm_nil] at s3 this p1 ⊢
        generalize shuL g m q (k + 1) (L.drop 1) = R at *
        generalize L.drop 1 = D at *
        generalize nm D = D2 at *
        generalize nm (O ++ x :: R) = F at *
        generalize (O ++ x :: R).length = Fn at *
        generalize nm L = M at *
        rw [lpB_eq]
        simp (maxSteps := 1000000) (disch := first | omega | decide | assumption | simp [scal]) [o_indexAddrS es_24, ze_24, o_buildSlice es_24 ze_24 (by decide) ba_24_1, ap_24, builtin_append ni_24, lenA_sl lk_24, lenA_sl lk_53, o_indexAddrS es_53, loadA_eq ia_5, o_convI cv_5_3, loadA_eq ia_3, o_buildSlice es_24 ze_24 (by decide) ba_24_0, o_sliceS sl_24, hpos, hpos', w, w', p1, b3, c1, s3, app_src0, append_some ap_24, this]
      · have e0 : L.length - 1 = 0 := by omega
        have e0' : L.length = 1 := by omega
        rw [List.drop_of_length_le (show L.length ≤ 0 + 1 by omega)] at this
        rw [List.drop_of_length_le (show L.length ≤ 0 + 1 by omega)]
        simp only [List.take_zero, List.nil_append, List.length_nil, Nat.zero_add, nm_nil] at this p1 ⊢
        generalize shuL g m q (k + 1) [] = R at *
        generalize nm (O ++ x :: R) = F at *
        generalize (O ++ x :: R).length = Fn at *
        generalize nm L = M at *
        rw [lpB_eq]
        simp (maxSteps := 1000000) (disch := first | omega | decide | assumption | simp [scal]) [o_indexAddrS es_24, ze_24, o_buildSlice es_24 ze_24 (by decide) ba_24_1, ap_24, builtin_append ni_24, lenA_sl lk_24, lenA_sl lk_53, o_indexAddrS es_53, loadA_eq ia_5, o_convI cv_5_3, loadA_eq ia_3, o_buildSlice es_24 ze_24 (by decide) ba_24_0, o_sliceS sl_24, hpos, hpos', w, w', p1, b3, c1, e0, app_src0, append_some ap_24, this]
end
end Go.Proofs.Ytfccmddkblbeoaa.rk
namespace Go.Proofs.Ytfccmddkblbeoaa.rk
open Go.GE
set_option linter.unusedVariables false
set_option linter.unusedSimpArgs false
set_option linter.unusedSectionVars false
set_option maxRecDepth 100000
set_option maxHeartbeats 4000000
attribute [local simp] runOps_nil runOps_cons runOpsF_nil runOpsF_cons fstS_some fstF_some opStep_eq want_none oStep_true oStep_false fin_pure fin_read fin_alloc fin_write storeB wrN cellV addWr o_move o_assign o_pick o_alloc o_box o_load o_store o_nilCheck o_bin o_un o_extract o_callV o_callB o_callI callV_f callV_y callV_fc o_makeFunc partsA Instr.fill builtin_len builtin_max2 bin_add bin_sub bin_mul bin_quo bin_rem bin_lss bin_leq bin_gtr bin_geq bin_eql bin_neq un_neg un_not bin_shr bin_shl wrap_u64_id opd opds optAll putO nbeq nblt constOk isC ops sub cl cr co bodyOf thenS_normal thenS_ret thenS_exit thenS_goto afterN_normal afterN_ret afterN_exit afterN_goto condS_true condS_false blockS_normal blockS_ret blockS_exit blockS_goto headS normS normK_eq fixS_nil fixS_cons fix1 fixV emptyB keepO_nil keepO_cons roundC_normal roundC_exit roundC_ret roundC_goto sweep_eq sweepD rnm pickR pickW rootsB ptrT renT ptrFn renFn ptrB_flat ptrB_non renB_flat renB_non plainS_some drawS_some fpsOk disj unord range' dropTo enumT undef wrap_i64_id Value.cells mkCells ptrTo scal cellsAt rdN endS_ret resultsA Option.bind_some tupV finish reachN dep ptrL_eq ptrL renL_eq renL ptrV_bool ptrV_int ptrV_string ptrV_nilFunc ptrV_nilIface ptrV_nilPtr ptrV_ptr ptrV_nilSl ptrV_sl ptrV_iface ptrV_agg ptrV_tuple ptrV_func renV_bool renV_int renV_string renV_nilFunc renV_nilIface renV_nilPtr renV_ptr renV_nilSl renV_sl renV_iface renV_agg renV_tuple renV_func gotoS_goto gotoS_normal gotoS_exit gotoS_ret skip_seq sliceE bnd bndHi intOf optOpd keepT_nil keepT_cons keepC_t keepC_f lk_nil lk_cons lkC_t lkC_f has_nil has_cons hasC_t hasC_f rep_nil rep_cons repC_t repC_f put_eq putC_t putC_f mem_nil mem_cons memC_t memC_f idx_nil idx_cons idxC_t idxC_f reach_nil reachP_cons reachQ_t reachQ_f ptrB_dead renB_dead ins_eq
attribute [local simp] n40_1s n40_3s n40_6s n40_11s n40_13s n40_14s n40_12s n40_10s n40_17s n40_16s n40_18s n40_15s n40_9s n40_8s n40_8g n40_7s n40_5s n40_21s n40_26s n40_28s n40_29s n40_27s n40_25s n40_33s n40_36s n40_38s n40_39s n40_37s n40_35s n40_41s n40_42s n40_40s n40_34s n40_32s n40_31s n40_43s n40_30s n40_24s n40_23s n40_23g n40_22s n40_20s n40_45s n40_46s n40_44s n40_19s n40_4s n40_2s n40_0s Try.f40
def shuS (g : Nat → Nat) (m n : Nat) : List Nat := shuL g m n 0 (List.range n)
theorem shuS_len {g : Nat → Nat} {m n : Nat} : (shuS g m n).length = n := shu_len
theorem shuS_perm {g : Nat → Nat} {m n : Nat} : (shuS g m n).Perm (List.range n) := shu_perm (by simp)
section
variable (b off m c : Nat) {cs : List Value} {own : Bool} {g : Nat → Nat} {h : List Blk} (hb : h[b]? = some (.cells cs 1 true own)) (hc : ByC cs off m g)
include hb hc
theorem k40 (n : Nat) (hn : n ≤ 5) : callH LL 40 [iv n, sl b off m c] h = some ⟨sl h.length 0 n n, h ++ [nB (shuS g m n)], [b], []⟩ := by
  refine callN_1 rfl hb noIdB_flat (args' := [iv n, sl 0 off m c]) (by simp [renV, dep, optAll, idx, nbeq]) (v := sl 1 0 n n) (news := [nB (shuS g m n)]) (go (by decide) ?_) (by intro blk hb; simp only [List.mem_singleton] at hb; subst hb; exact noIdB_flat) (by simp [renV, dep])
  have h1 := l40a off m c (cs := cs) (own := own) n hn n 0 (by omega)
  have h2 := l40b off m c (own := own) hc n 0 (List.range n) [] (by simp) (by simp; omega) (by omega)
  rw [List.nil_append, List.length_range, shu_len] at h2
  simp only [nB, List.range_zero, nm_nil, Int.natCast_zero, List.length_nil] at h1 h2 ⊢
  unfold shuS
  generalize nm (shuL g m n 0 (List.range n)) = F at *
  generalize nm (List.range n) = G at *
  rw [run40 _ _ _ (by simp)]
  simp (maxSteps := 1000000) (disch := first | omega | decide | assumption | simp [scal]) [o_indexAddrS es_24, ze_24, o_buildSlice es_24 ze_24 (by decide) ba_24_1, ap_24, builtin_append ni_24, lenA_sl lk_24, lenA_sl lk_53, o_indexAddrS es_53, loadA_eq ia_5, o_convI cv_5_3, loadA_eq ia_3, o_buildSlice es_24 ze_24 (by decide) ba_24_0, o_sliceS sl_24, h1, h2]
end
def mx (a b : Int) : Int := if a < b then b else a
/-- whether ranges can rise along an order, from the i-th day on -/
def risL (l : Nat → Int × Int) (o : Nat → Int) : Nat → Nat → Int → Bool
  | 0, _, _ => true
  | k + 1, i, last => if (l (o i).toNat).2 < mx last (l (o i).toNat).1 then false else risL l o k (i + 1) (mx last (l (o i).toNat).1)
theorem ris_iff {l : Nat → Int × Int} {o : Nat → Int} : ∀ (k i : Nat) (last : Int), risL l o k i last = true ↔ (∀ j, i ≤ j → j < i + k → last ≤ (l (o j).toNat).2) ∧ ∀ j j', i ≤ j → j ≤ j' → j' < i + k → (l (o j).toNat).1 ≤ (l (o j').toNat).2 := by
  intro k
  induction k with
  | zero => intro i last; simp only [risL, true_iff]; exact ⟨fun j h1 h2 => by omega, fun j j' h1 h2 h3 => by omega⟩
  | succ k ih =>
    intro i last
    unfold risL
    have hmx : ∀ a b z : Int, mx a b ≤ z ↔ a ≤ z ∧ b ≤ z := by intro a b z; unfold mx; split <;> omega
    by_cases h : (l (o i).toNat).2 < mx last (l (o i).toNat).1
    · rw [if_pos h]
      simp only [Bool.false_eq_true, false_iff]
      rintro ⟨h1, h2⟩
      have a1 := h1 i (by omega) (by omega)
      have a2 := h2 i i (by omega) (by omega) (by omega)
      have := (hmx last (l (o i).toNat).1 (l (o i).toNat).2).2 ⟨a1, a2⟩
      omega
    · rw [if_neg h, ih]
      have h' := (hmx last (l (o i).toNat).1 (l (o i).toNat).2).1 (by omega)
      constructor
      · rintro ⟨h1, h2⟩
        refine ⟨fun j a1 a2 => ?_, fun j j' a1 a2 a3 => ?_⟩
        · by_cases hj : j = i
          · subst hj; exact h'.1
          · exact ((hmx _ _ _).1 (h1 j (by omega) (by omega))).1
        · by_cases hj : j = i
          · subst hj
            by_cases hj' : j' = j
            · subst hj'; exact h'.2
            · exact ((hmx _ _ _).1 (h1 j' (by omega) (by omega))).2
          · exact h2 j j' (by omega) a2 (by omega)
      · rintro ⟨h1, h2⟩
        exact ⟨fun j a1 a2 => (hmx _ _ _).2 ⟨h1 j (by omega) (by omega), h2 i j (by omega) (by omega) (by omega)⟩, fun j j' a1 a2 a3 => h2 j j' (by omega) a2 (by omega)⟩
theorem fltQ_iff {l : Nat → Int × Int} {o : Nat → Int} {p : Nat} : ∀ (k q : Nat), (fltQ l o p k q = none ∧ ∀ j, q ≤ j → j < q + k → quiet l (o j).toNat (o p).toNat = false) ∨ ∃ r, fltQ l o p k q = some r ∧ q ≤ r ∧ r < q + k ∧ quiet l (o r).toNat (o p).toNat = true ∧ ∀ j, q ≤ j → j < r → quiet l (o j).toNat (o p).toNat = false := by
  intro k
  induction k with
  | zero => intro q; exact .inl ⟨rfl, fun j h1 h2 => by omega⟩
  | succ k ih =>
    intro q
    unfold fltQ
    cases h : quiet l (o q).toNat (o p).toNat
    · rw [if_neg (by decide)]
      rcases ih (q + 1) with ⟨h1, h2⟩ | ⟨r, h1, h2, h3, h4, h5⟩
      · refine .inl ⟨h1, fun j a1 a2 => ?_⟩
        by_cases hj : j = q
        · subst hj; exact h
        · exact h2 j (by omega) (by omega)
      · refine .inr ⟨r, h1, by omega, by omega, h4, fun j a1 a2 => ?_⟩
        by_cases hj : j = q
        · subst hj; exact h
        · exact h5 j (by omega) (by omega)
    · rw [if_pos rfl]
      exact .inr ⟨q, rfl, by omega, by omega, h, fun j a1 a2 => by omega⟩
theorem fltP_iff {l : Nat → Int × Int} {o : Nat → Int} {m : Nat} : ∀ (k p : Nat), p + k = m → (fltP l o m k p = none ∧ ∀ i j, p ≤ i → i < j → j < m → quiet l (o j).toNat (o i).toNat = false) ∨
    ∃ r s, fltP l o m k p = some (r, s) ∧ p ≤ r ∧ r < s ∧ s < m ∧ quiet l (o s).toNat (o r).toNat = true ∧ ∀ i j, p ≤ i → i < j → j < m → (i < r ∨ i = r ∧ j < s) → quiet l (o j).toNat (o i).toNat = false := by
  intro k
  induction k with
  | zero => intro p hp; exact .inl ⟨rfl, fun i j h1 h2 h3 => by omega⟩
  | succ k ih =>
    intro p hp
    unfold fltP
    rcases fltQ_iff (l := l) (o := o) (p := p) (m - (p + 1)) (p + 1) with ⟨h1, h2⟩ | ⟨r, h1, h2, h3, h4, h5⟩
    · rw [h1]
      rcases ih (p + 1) (by omega) with ⟨g1, g2⟩ | ⟨r, s, g1, g2, g3, g4, g5, g6⟩
      · refine .inl ⟨g1, fun i j a1 a2 a3 => ?_⟩
        by_cases hi : i = p
        · subst hi; exact h2 j (by omega) (by omega)
        · exact g2 i j (by omega) a2 a3
      · refine .inr ⟨r, s, g1, by omega, g3, g4, g5, fun i j a1 a2 a3 a4 => ?_⟩
        by_cases hi : i = p
        · subst hi; exact h2 j (by omega) (by omega)
        · exact g6 i j (by omega) a2 a3 a4
    · rw [h1]
      refine .inr ⟨p, r, rfl, by omega, by omega, by omega, h4, fun i j a1 a2 a3 a4 => ?_⟩
      obtain rfl : i = p := by omega
      exact h5 j (by omega) (by omega)
/-- spans that make a month -/
def OkM (A : List (Int × Int)) : Prop := 1 ≤ A.length ∧ A.length ≤ 30 ∧ ∀ a ∈ A, 0 ≤ a.1 ∧ a.1 ≤ a.2 ∧ a.2 ≤ 100000
theorem madR_ok {g : Nat → Nat × Nat} {n : Nat} : 1 ≤ (madR g n).length ∧ (madR g n).length ≤ 5 ∧ ∀ a ∈ madR g n, 0 ≤ a.1 ∧ a.1 ≤ a.2 ∧ a.2 < 19 := by
  unfold madR
  split
  · simp
  · refine ⟨by simp; omega, by simp; omega, fun a ha => ?_⟩
    obtain ⟨i, _, rfl⟩ := List.mem_map.1 ha
    simp only [madD]
    omega
theorem OkM.at {A : List (Int × Int)} (H : OkM A) {i : Nat} (hi : i < A.length) : 0 ≤ (spAt A i).1 ∧ (spAt A i).1 ≤ (spAt A i).2 ∧ (spAt A i).2 ≤ 100000 := by
  have e : spAt A i = A[i] := by simp [spAt, hi]
  rw [e]
  exact H.2.2 _ (List.getElem_mem hi)
theorem OkM.chk {A : List (Int × Int)} (H : OkM A) : chkS (spAt A) A.length = 0 := by
  obtain ⟨h1, h2, h3⟩ := H
  unfold chkS
  rw [if_neg (by omega), if_neg (by omega), if_neg]
  have : anyB (spAt A) A.length 0 = false := any_iff.2 fun i hi => by
    have := OkM.at ⟨h1, h2, h3⟩ hi
    unfold bad
    simp only [Bool.or_eq_false_iff, Bool.not_eq_false', Bool.and_eq_true, decide_eq_true_eq, decide_eq_false_iff_not]
    omega
  rw [this]; decide
theorem madR_M {g : Nat → Nat × Nat} {n : Nat} : OkM (madR g n) := by
  obtain ⟨h1, h2, h3⟩ := madR_ok (g := g) (n := n)
  exact ⟨h1, by omega, fun a ha => by have := h3 a ha; omega⟩
/-- an order of all days -/
theorem perm_ord {O : List Nat} {n : Nat} (h : O.Perm (List.range n)) : ordL (ntAt O) n n 0 = 0 ∧ ∀ j, j < n → 0 ≤ ntAt O j ∧ ntAt O j < n := by
  have hl : O.length = n := by have := h.length_eq; simpa using this
  have hmem : ∀ j, j < n → O.getD j 0 < n := fun j hj => by
    have e : O.getD j 0 = O[j] := by simp [hl, hj]
    rw [e]
    have := h.mem_iff.1 (List.getElem_mem (l := O) (n := j) (by omega))
    simpa using this
  have hnd : O.Nodup := h.nodup_iff.2 List.nodup_range
  have key : ∀ k i, i + k = n → ordL (ntAt O) n k i = 0 := by
    intro k
    induction k with
    | zero => intro i _; rfl
    | succ k ih =>
      intro i hi
      unfold ordL
      have h1 := hmem i (by omega)
      rw [if_neg (by unfold ntAt; generalize O.getD i 0 = z at *; simp; omega), if_neg, ih (i + 1) (by omega)]
      rw [seen_iff]
      rintro ⟨p, a1, a2, a3⟩
      have e1 : O.getD p 0 = O[p] := by simp [show p < O.length by omega]
      have e2 : O.getD i 0 = O[i] := by simp [show i < O.length by omega]
      unfold ntAt at a3
      rw [e1, e2] at a3
      have := (List.getElem_inj (h₀ := show p < O.length by omega) (h₁ := show i < O.length by omega) hnd).1 (by omega)
      omega
  exact ⟨key n 0 (by omega), fun j hj => by have := hmem j hj; unfold ntAt; omega⟩
end Go.Proofs.Ytfccmddkblbeoaa.rk
namespace Go.Proofs.Ytfccmddkblbeoaa.rk
open Go.GE
set_option linter.unusedVariables false
set_option linter.unusedSimpArgs false
set_option linter.unusedSectionVars false
set_option maxRecDepth 100000
set_option maxHeartbeats 4000000
/-- a month and an order of its days -/
structure MO (A : List (Int × Int)) (O : List Nat) (n : Nat) : Prop where
  ha : OkM A
  la : A.length = n
  lo : O.length = n
  n5 : n ≤ 5
  hp : O.Perm (List.range n)
theorem MO.lt {A : List (Int × Int)} {O : List Nat} {n : Nat} (S : MO A O n) {i : Nat} (hi : i < n) : O.getD i 0 < n := by
  have := ((perm_ord S.hp).2 i hi).2
  unfold ntAt at this
  omega
/-- the j-th day of an order is surely quieter than the i-th -/
def qt (A : List (Int × Int)) (O : List Nat) (j i : Nat) : Bool := quiet (spAt A) (O.getD j 0) (O.getD i 0)
theorem ord_eq {A : List (Int × Int)} {O : List Nat} {n : Nat} (S : MO A O n) : ordS (spAt A) n (ntAt O) n = 0 := by
  unfold ordS
  have := S.ha.chk
  rw [S.la] at this
  rw [if_neg (by simp [this]), if_neg (by simp), (perm_ord S.hp).1]
theorem ris_eq {A : List (Int × Int)} {O : List Nat} {n : Nat} (S : MO A O n) : risL (spAt A) (ntAt O) n 0 0 = true ↔ ∀ i j, i < j → j < n → qt A O j i = false := by
  rw [ris_iff]
  have hz : ∀ j, (ntAt O j).toNat = O.getD j 0 := fun j => Int.toNat_natCast _
  have ok : ∀ j, j < n → 0 ≤ (spAt A (O.getD j 0)).1 ∧ (spAt A (O.getD j 0)).1 ≤ (spAt A (O.getD j 0)).2 := fun j hj => by
    have := S.ha.at (i := O.getD j 0) (by rw [S.la]; exact S.lt hj)
    omega
  simp only [hz, qt, quiet, decide_eq_false_iff_not]
  constructor
  · rintro ⟨_, h⟩ i j h1 h2
    have := h i j (by omega) (by omega) (by omega)
    omega
  · intro h
    refine ⟨fun j _ h2 => by have := ok j (by omega); omega, fun j j' _ h2 h3 => ?_⟩
    by_cases hj : j = j'
    · subst hj; exact (ok j (by omega)).2
    · have := h j j' (by omega) (by omega); omega
theorem flt_eq {A : List (Int × Int)} {O : List Nat} {n : Nat} (S : MO A O n) : (fltP (spAt A) (ntAt O) n n 0 = none ∧ risL (spAt A) (ntAt O) n 0 0 = true) ∨
    ∃ r s, fltP (spAt A) (ntAt O) n n 0 = some (r, s) ∧ risL (spAt A) (ntAt O) n 0 0 = false ∧ r < s ∧ s < n ∧ qt A O s r = true ∧ ∀ i j, i < j → j < n → (i < r ∨ i = r ∧ j < s) → qt A O j i = false := by
  have hz : ∀ j, (ntAt O j).toNat = O.getD j 0 := fun j => Int.toNat_natCast _
  rcases fltP_iff (l := spAt A) (o := ntAt O) (m := n) n 0 (by omega) with ⟨h1, h2⟩ | ⟨r, s, h1, _, h2, h3, h4, h5⟩
  · refine .inl ⟨h1, (ris_eq S).2 fun i j a b => ?_⟩
    have := h2 i j (by omega) a b
    rw [hz, hz] at this
    exact this
  · simp only [hz] at h4 h5
    refine .inr ⟨r, s, h1, ?_, h2, h3, h4, fun i j a b c => h5 i j (by omega) a b c⟩
    cases hr : risL (spAt A) (ntAt O) n 0 0
    · rfl
    · have := (ris_eq S).1 hr r s h2 h3
      unfold qt at this
      rw [h4] at this
      exact this
end Go.Proofs.Ytfccmddkblbeoaa.rk
namespace Go.Proofs.Ytfccmddkblbeoaa.rk
open Go.GE
set_option linter.unusedVariables false
set_option linter.unusedSimpArgs false
set_option linter.unusedSectionVars false
set_option maxRecDepth 100000
set_option maxHeartbeats 4000000
section
open Go.ChangeShapes Go.WideShapes Go.RowKit
variable {H : Type} {enc : TypeId × Value → H} {W : World} {base b0 : Nat} {v : Value} {d : DataW H} {p : List MemPlace}
def weOf (zs : List (List Int)) (i : Nat) : Nat × Nat := (((zs.getD i []).getD 0 0).toNat, ((zs.getD i []).getD 1 0).toNat)
def byOf (zs : List (List Int)) (i : Nat) : Nat := ((zs.getD i []).getD 0 0).toNat
theorem we_flat {zs : List (List Int)} (h : ∀ z ∈ zs, wfs [.u8, .u8] z) : WeC (zs.flatMap (ints [.u8, .u8])) 0 zs.length (weOf zs) := by
  have e : zs.flatMap (ints [.u8, .u8]) = zs.flatMap fun z => [uv (z.getD 0 0).toNat, uv (z.getD 1 0).toNat] := by
    induction zs with
    | nil => rfl
    | cons z zs ih =>
      have h0 := h z (by simp)
      have h1 := h0.1
      have h2 : wfs (List.replicate 2 .u8) z := h0
      match z, h1, h2 with
      | [a, b], _, h2 =>
        obtain ⟨x, rfl, _⟩ := nat_of (b := 255) (u8_wf (wfs_get h2 (z := a) (by simp)))
        obtain ⟨y, rfl, _⟩ := nat_of (b := 255) (u8_wf (wfs_get h2 (z := b) (by simp)))
        rw [List.flatMap_cons, List.flatMap_cons, ih fun z hz => h z (by simp [hz])]; rfl
  have hb : ∀ i, i < zs.length → (weOf zs i).1 < 256 ∧ (weOf zs i).2 < 256 := fun i hi => by
    have hm := h _ (List.getElem_mem hi)
    have h1 := hm.1
    have h2 : wfs (List.replicate 2 .u8) zs[i] := hm
    have e : zs.getD i [] = zs[i] := by simp [hi]
    unfold weOf
    rw [e]
    generalize zs[i] = z at *
    match z, h1, h2 with
    | [a, b], _, h2 =>
      have := u8_wf (wfs_get h2 (z := a) (by simp))
      have := u8_wf (wfs_get h2 (z := b) (by simp))
      simp only [List.getD_cons_zero, List.getD_cons_succ]
      omega
  rw [e]
  intro i hi
  have hz : zs[i]? = some (zs.getD i []) := by simp [hi]
  refine ⟨⟨?_, ?_⟩, hb i hi⟩
  · have := flat_get (g := fun z : List Int => [uv (z.getD 0 0).toNat, uv (z.getD 1 0).toNat]) (k := 2) (fun _ => rfl) hz (j := 0) (by omega)
    rw [Nat.add_zero] at this
    rw [Nat.zero_add, this]; rfl
  · have := flat_get (g := fun z : List Int => [uv (z.getD 0 0).toNat, uv (z.getD 1 0).toNat]) (k := 2) (fun _ => rfl) hz (j := 1) (by omega)
    rw [Nat.zero_add, this]; rfl
theorem by_flat {zs : List (List Int)} (h : ∀ z ∈ zs, wfs [.u8] z) : ByC (zs.flatMap (ints [.u8])) 0 zs.length (byOf zs) := by
  have e : zs.flatMap (ints [.u8]) = zs.flatMap fun z => [uv (z.getD 0 0).toNat] := by
    induction zs with
    | nil => rfl
    | cons z zs ih =>
      have h0 := h z (by simp)
      have h1 := h0.1
      have h2 : wfs (List.replicate 1 .u8) z := h0
      match z, h1, h2 with
      | [a], _, h2 =>
        obtain ⟨x, rfl, _⟩ := nat_of (b := 255) (u8_wf (wfs_get h2 (z := a) (by simp)))
        rw [List.flatMap_cons, List.flatMap_cons, ih fun z hz => h z (by simp [hz])]; rfl
  have hb : ∀ i, i < zs.length → byOf zs i < 256 := fun i hi => by
    have hm := h _ (List.getElem_mem hi)
    have h1 := hm.1
    have h2 : wfs (List.replicate 1 .u8) zs[i] := hm
    have e : zs.getD i [] = zs[i] := by simp [hi]
    unfold byOf
    rw [e]
    generalize zs[i] = z at *
    match z, h1, h2 with
    | [a], _, h2 =>
      have := u8_wf (wfs_get h2 (z := a) (by simp))
      simp only [List.getD_cons_zero]
      omega
  rw [e]
  intro i hi
  have hz : zs[i]? = some (zs.getD i []) := by simp [hi]
  refine ⟨?_, hb i hi⟩
  have := flat_get (g := fun z : List Int => [uv (z.getD 0 0).toNat]) (k := 1) (fun _ => rfl) hz (j := 0) (by omega)
  rw [Nat.mul_one, Nat.add_zero] at this
  rw [Nat.zero_add, this]; rfl
/-- a weather as it is handed over -/
theorem open_weather (hv : Value.okWide Try.prog W .any b0 47 v) (hd : DataW.Trod enc Try.prog W base (fun _ => true) true 47 v d p) :
    ∃ (n : Nat) (cs : List Value) (g : Nat → Nat × Nat) (mb : Option MB), WeC cs 0 n g ∧ WinO W mb (.cells cs 2 true false) ∧ ∀ (m : Mp) b, m b = mb → VR m (sl b 0 n n) v := by
  obtain ⟨zs, mb, hw, hvr, hz, _⟩ := open_param_flat (ks := [.u8, .u8]) (d := 5) Try.underlying47 (by kernel_rfl) (by kernel_rfl) (by decide) hv hd
  exact ⟨zs.length, _, weOf zs, mb, we_flat hz, hw, hvr⟩
theorem open_bytes (hv : Value.okWide Try.prog W .any b0 53 v) (hd : DataW.Trod enc Try.prog W base (fun _ => true) true 53 v d p) :
    ∃ (n : Nat) (cs : List Value) (g : Nat → Nat) (mb : Option MB), ByC cs 0 n g ∧ WinO W mb (.cells cs 1 true false) ∧ ∀ (m : Mp) b, m b = mb → VR m (sl b 0 n n) v := by
  obtain ⟨zs, mb, hw, hvr, hz, _⟩ := open_param_flat (ks := [.u8]) (d := 5) Try.underlying53 (by kernel_rfl) (by kernel_rfl) (by decide) hv hd
  exact ⟨zs.length, _, byOf zs, mb, by_flat hz, hw, hvr⟩
theorem open_u8 (hv : Value.okWide Try.prog W .any b0 5 v) (hd : DataW.Trod enc Try.prog W base (fun _ => true) true 5 v d p) : ∃ n : Nat, v = uv n ∧ n < 256 := by
  obtain ⟨y, rfl, _, _, h⟩ := open_int (show Try.prog.underlying 5 = some (.int .u8) from by kernel_rfl) hv hd
  obtain ⟨n, rfl, hn⟩ := nat_of (b := 255) (u8_wf h)
  exact ⟨n, rfl, hn⟩
end
end Go.Proofs.Ytfccmddkblbeoaa.rk
namespace Go.Proofs.Ytfccmddkblbeoaa.rk
open Go.GE
set_option linter.unusedVariables false
set_option linter.unusedSimpArgs false
set_option linter.unusedSectionVars false
set_option maxRecDepth 100000
set_option maxHeartbeats 4000000
theorem chk_ok {l : Nat → Int × Int} {n : Nat} (h : chkS l n = 0) : 0 < n ∧ n ≤ 30 := by
  unfold chkS at h
  by_cases h0 : n = 0
  · rw [if_pos h0] at h; omega
  · rw [if_neg h0] at h
    by_cases h2 : 30 < n
    · rw [if_pos h2] at h; omega
    · omega
end Go.Proofs.Ytfccmddkblbeoaa.rk
namespace Go.Proofs.Ytfccmddkblbeoaa.rk
open Go.GE
set_option linter.unusedVariables false
set_option linter.unusedSimpArgs false
set_option linter.unusedSectionVars false
set_option maxRecDepth 100000
set_option maxHeartbeats 4000000
theorem pos_eq {A : List (Int × Int)} {O : List Nat} {n : Nat} (S : MO A O n) (hq : ∀ i j, i < j → j < n → qt A O j i = false) : posS (spAt A) n (ntAt O) n = 0 := by
  unfold posS
  rw [ord_eq S, if_neg (by decide)]
  rcases flt_eq S with ⟨h1, _⟩ | ⟨r, s, _, _, h3, h4, h5, _⟩
  · rw [h1]; rfl
  · rw [hq r s h3 h4] at h5; exact absurd h5 (by decide)
end Go.Proofs.Ytfccmddkblbeoaa.rk
namespace Go.Proofs.Ytfccmddkblbeoaa.rk
open Go.GE
set_option linter.unusedVariables false
set_option linter.unusedSimpArgs false
set_option linter.unusedSectionVars false
set_option maxRecDepth 100000
set_option maxHeartbeats 4000000
attribute [local simp] runOps_nil runOps_cons runOpsF_nil runOpsF_cons fstS_some fstF_some opStep_eq want_none oStep_true oStep_false fin_pure fin_read fin_alloc fin_write storeB wrN cellV addWr o_move o_assign o_pick o_alloc o_box o_load o_store o_nilCheck o_bin o_un o_extract o_callV o_callB o_callI callV_f callV_y callV_fc o_makeFunc partsA Instr.fill builtin_len builtin_max2 bin_add bin_sub bin_mul bin_quo bin_rem bin_lss bin_leq bin_gtr bin_geq bin_eql bin_neq un_neg un_not bin_shr bin_shl wrap_u64_id opd opds optAll putO nbeq nblt constOk isC ops sub cl cr co bodyOf thenS_normal thenS_ret thenS_exit thenS_goto afterN_normal afterN_ret afterN_exit afterN_goto condS_true condS_false blockS_normal blockS_ret blockS_exit blockS_goto headS normS normK_eq fixS_nil fixS_cons fix1 fixV emptyB keepO_nil keepO_cons roundC_normal roundC_exit roundC_ret roundC_goto sweep_eq sweepD rnm pickR pickW rootsB ptrT renT ptrFn renFn ptrB_flat ptrB_non renB_flat renB_non plainS_some drawS_some fpsOk disj unord range' dropTo enumT undef wrap_i64_id Value.cells mkCells ptrTo scal cellsAt rdN endS_ret resultsA Option.bind_some tupV finish reachN dep ptrL_eq ptrL renL_eq renL ptrV_bool ptrV_int ptrV_string ptrV_nilFunc ptrV_nilIface ptrV_nilPtr ptrV_ptr ptrV_nilSl ptrV_sl ptrV_iface ptrV_agg ptrV_tuple ptrV_func renV_bool renV_int renV_string renV_nilFunc renV_nilIface renV_nilPtr renV_ptr renV_nilSl renV_sl renV_iface renV_agg renV_tuple renV_func gotoS_goto gotoS_normal gotoS_exit gotoS_ret skip_seq sliceE bnd bndHi intOf optOpd keepT_nil keepT_cons keepC_t keepC_f lk_nil lk_cons lkC_t lkC_f has_nil has_cons hasC_t hasC_f rep_nil rep_cons repC_t repC_f put_eq putC_t putC_f mem_nil mem_cons memC_t memC_f idx_nil idx_cons idxC_t idxC_f reach_nil reachP_cons reachQ_t reachQ_f ptrB_dead renB_dead ins_eq
attribute [local simp] n71_1s n71_3s n71_4s n71_2s n71_0s Try.f71 n54_1s n54_3s n54_4s n54_2s n54_0s Try.f54 n53_1s n53_4s n53_7s n53_8s n53_6s n53_9s n53_5s n53_3s n53_11s n53_14s n53_18s n53_21s n53_22s n53_20s n53_26s n53_28s n53_31s n53_32s n53_30s n53_33s n53_29s n53_27s n53_25s n53_24s n53_34s n53_23s n53_19s n53_17s n53_16s n53_16g n53_15s n53_13s n53_36s n53_37s n53_35s n53_12s n53_10s n53_2s n53_0s Try.f53
theorem k71 (M i : Nat) (hM : M < 2 ^ 32) (hi : i < 32) (h : List Blk) : callH LL 71 [wv M, iv i] h = some ⟨.bool (M.testBit i), h, [], []⟩ := by
  refine callH_none rfl (fun _ => rfl) (go (by decide) ?_) fun _ => rfl
  have f1 := @fdiv_poww M i hi
  have hq : M / 2 ^ i < 2 ^ 32 := by have := Nat.div_le_self M (2 ^ i); omega
  have f2 := fun c => @bin_and1w Try.prog 77 c _ hq
  rw [Nat.testBit_eq_decide_div_mod_eq]
  generalize M / 2 ^ i = q at *
  rw [run71 _ _ _ (by simp)]
  by_cases h1 : q % 2 = 1
  · have h1' := eq_true (show (q : Int) % 2 = 1 by omega)
    simp (maxSteps := 1000000) (disch := first | omega | decide | assumption | simp [scal]) [f1, f2, h1, h1']
  · have h1' : ¬ (q : Int) % 2 = 1 := by omega
    simp (maxSteps := 1000000) (disch := first | omega | decide | assumption | simp [scal]) [f1, f2, h1, h1']
theorem k54 (M i : Nat) (hM : M < 2 ^ 32) (hi : i < 32) (h : List Blk) : callH LL 54 [wv M, iv i] h = some ⟨wv (M ||| 2 ^ i), h, [], []⟩ := by
  refine callH_none rfl (fun _ => rfl) (go (by decide) ?_) fun _ => rfl
  have f3 := shl_poww hi
  have p1 : 2 ^ i < 2 ^ 32 := Nat.pow_lt_pow_right (by decide) hi
  have f4 := fun c => @bin_orw Try.prog 77 c M (2 ^ i) hM p1
  generalize ((2 ^ i : Nat) : Int) = Q at *
  rw [run54 _ _ _ (by simp)]
  simp (maxSteps := 1000000) (disch := first | omega | decide | assumption | simp [scal]) [f3, f4]
/-- no day that is left, from the j-th one on, is surely quieter -/
def nxK (l : Nat → Int × Int) (M i : Nat) : Nat → Nat → Bool
  | 0, _ => true
  | k + 1, j => if !M.testBit j && quiet l j i then false else nxK l M i k (j + 1)
def nxB (l : Nat → Int × Int) (n M i : Nat) : Bool := !M.testBit i && nxK l M i n 0
section
variable (off n c : Nat) {cs : List Value} {own : Bool} {l : Nat → Int × Int}
theorem l53 (hc : SpC cs off n l) (hn : n ≤ 30) (M i : Nat) (hM : M < 2 ^ 32) (hi : i < n) : ∀ (k j : Nat), j + k = n →
    lpB Try.prog LL ⟨53, 30, 1, none⟩ n53_16 n53_17 ⟨[(1, wv M), (2, iv i), (7, .func (.func 77) #[sl 0 off n c] #[]), (15, iv n), (16, iv j)], [.cells cs 2 true own], []⟩ =
      if nxK l M i k j = true then some (.exit 0, ⟨[], [.cells cs 2 true own], []⟩) else some (.ret, ⟨[(6, .bool false)], [.cells cs 2 true own], []⟩) := by
  intro k
  induction k with
  | zero =>
    intro j hj
    obtain rfl : j = n := by omega
    rw [lpB_eq]
    simp (maxSteps := 1000000) (disch := first | omega | decide | assumption | simp [scal]) [lenA_sl lk_78, want_some q53_28g4, nxK]
  | succ k ih =>
    intro j hj
    have e1 : (j : Int) < n := by omega
    have a1 := fun bx => k77 0 off n c (h := .cells cs 2 true own :: bx) rfl hc j i (by omega) hi
    have a2 := k71 M j hM (by omega)
    have this := ih (j + 1) (by omega)
    unfold nxK
    simp only [cast1] at this
    generalize quiet l j i = x at *
    generalize M.testBit j = y at *
    rw [lpB_eq]
    cases x <;> cases y <;> simp only [Bool.not_true, Bool.not_false, Bool.and_true, Bool.and_false, Bool.false_eq_true, if_false, if_true]
    · simp (maxSteps := 1000000) (disch := first | omega | decide | assumption | simp [scal]) [lenA_sl lk_78, want_some q53_28g4, e1, a1, a2, callV_fc, this]
    · simp (maxSteps := 1000000) (disch := first | omega | decide | assumption | simp [scal]) [lenA_sl lk_78, want_some q53_28g4, e1, a1, a2, callV_fc, this]
    · simp (maxSteps := 1000000) (disch := first | omega | decide | assumption | simp [scal]) [lenA_sl lk_78, want_some q53_28g4, e1, a1, a2, callV_fc]
    · simp (maxSteps := 1000000) (disch := first | omega | decide | assumption | simp [scal]) [lenA_sl lk_78, want_some q53_28g4, e1, a1, a2, callV_fc, this]
end
section
variable (b off n c : Nat) {cs : List Value} {own : Bool} {l : Nat → Int × Int} {h : List Blk} (hb : h[b]? = some (.cells cs 2 true own)) (hc : SpC cs off n l)
include hb hc
theorem k53 (hn : n ≤ 30) (M i : Nat) (hM : M < 2 ^ 32) (hi : i < n) : callH LL 53 [sl b off n c, wv M, iv i] h = some ⟨.bool (nxB l n M i), h, [b], []⟩ := by
  refine callH_1 rfl hb noIdB_flat (args' := [sl 0 off n c, wv M, iv i]) (by simp [renV, dep, optAll, idx, nbeq]) (go (by decide) ?_) fun _ => rfl
  have a2 := k71 M i hM (by omega)
  have this := l53 off n c (own := own) hc hn M i hM hi n 0 (by omega)
  simp only [Int.natCast_zero] at this
  unfold nxB
  rw [run53 _ _ _ (by simp)]
  generalize M.testBit i = y at *
  cases y
  · cases h1 : nxK l M i n 0 <;> rw [h1] at this <;> simp only [Bool.false_eq_true, if_false, if_true] at this
    · simp (maxSteps := 1000000) (disch := first | omega | decide | assumption | simp [scal]) [lenA_sl lk_78, want_some q53_28g4, a2, this]
    · simp (maxSteps := 1000000) (disch := first | omega | decide | assumption | simp [scal]) [lenA_sl lk_78, want_some q53_28g4, a2, this]
  · simp (maxSteps := 1000000) (disch := first | omega | decide | assumption | simp [scal]) [lenA_sl lk_78, want_some q53_28g4, a2]
end
end Go.Proofs.Ytfccmddkblbeoaa.rk
namespace Go.Proofs.Ytfccmddkblbeoaa.rk
open Go.GE
set_option linter.unusedVariables false
set_option linter.unusedSimpArgs false
set_option linter.unusedSectionVars false
set_option maxRecDepth 100000
set_option maxHeartbeats 4000000
theorem nxK_iff {l : Nat → Int × Int} {M i : Nat} : ∀ k j, nxK l M i k j = true ↔ ∀ t, j ≤ t → t < j + k → M.testBit t = true ∨ quiet l t i = false := by
  intro k
  induction k with
  | zero => intro j; simp only [nxK, true_iff]; intro t h1 h2; omega
  | succ k ih =>
    intro j
    unfold nxK
    cases h1 : M.testBit j <;> cases h2 : quiet l j i <;> simp only [Bool.not_true, Bool.not_false, Bool.and_true, Bool.and_false, Bool.false_eq_true, if_false, if_true, ih, false_iff]
    · constructor
      · intro h t a b
        by_cases ht : t = j
        · subst ht; exact .inr h2
        · exact h t (by omega) (by omega)
      · intro h t a b; exact h t (by omega) (by omega)
    · intro h
      rcases h j (by omega) (by omega) with g | g
      · rw [h1] at g; cases g
      · rw [h2] at g; cases g
    · constructor
      · intro h t a b
        by_cases ht : t = j
        · subst ht; exact .inl h1
        · exact h t (by omega) (by omega)
      · intro h t a b; exact h t (by omega) (by omega)
    · constructor
      · intro h t a b
        by_cases ht : t = j
        · subst ht; exact .inl h1
        · exact h t (by omega) (by omega)
      · intro h t a b; exact h t (by omega) (by omega)
/-- how many of the first n days are left -/
def cntU : Nat → Nat → Nat
  | 0, _ => 0
  | n + 1, M => cntU n M + if M.testBit n then 0 else 1
theorem bit_or {M i t : Nat} : (M ||| 2 ^ i).testBit t = (M.testBit t || decide (i = t)) := by rw [Nat.testBit_or, Nat.testBit_two_pow]
theorem cntU_ge {M i : Nat} : ∀ n, n ≤ i → cntU n (M ||| 2 ^ i) = cntU n M := by
  intro n
  induction n with
  | zero => intro _; rfl
  | succ n ih =>
    intro h
    simp only [cntU, ih (by omega), bit_or, show ¬ i = n by omega, decide_false, Bool.or_false]
theorem cntU_lt {M i : Nat} (hM : M.testBit i = false) : ∀ n, i < n → cntU n (M ||| 2 ^ i) + 1 = cntU n M := by
  intro n
  induction n with
  | zero => intro h; omega
  | succ n ih =>
    intro h
    by_cases hi : i = n
    · subst hi
      simp only [cntU, cntU_ge i (Nat.le_refl _), bit_or, decide_true, Bool.or_true, hM, if_true]
      simp
    · have := ih (by omega)
      simp only [cntU, bit_or, hi, decide_false, Bool.or_false]
      omega
theorem cntU_zero {n : Nat} : cntU n 0 = n := by
  induction n with
  | zero => rfl
  | succ n ih => simp [cntU, ih]
end Go.Proofs.Ytfccmddkblbeoaa.rk
namespace Go.Proofs.Ytfccmddkblbeoaa.rk
open Go.GE
set_option linter.unusedVariables false
set_option linter.unusedSimpArgs false
set_option linter.unusedSectionVars false
set_option maxRecDepth 100000
set_option maxHeartbeats 4000000
/-- a call, a step at a time -/
theorem callH_lit {f : FuncId} {args args' : List Value} {h hm h' : List Blk} {roots ρ : List Nat} {rr : RR} {v : Value} {rd wr : List Nat} (hk : idle LL f args) (h1 : args.flatMap (ptrV dep) = roots) (h2 : reach h 0 reachN roots [] = ρ) (h3 : optAll (renV (idx ρ) dep) args = some args')
    (h4 : optAll (pickB h (idx ρ)) ρ = some hm) (h5 : LL.run f args' hm = some rr) (h6 : mergeB h ρ rr = some ⟨v, h', rd, wr⟩) (hrd : ∀ b, b ∈ rd → b < h.length) : callH LL f args h = some ⟨v, h', rd, wr⟩ := by
  refine callH_of hk ?_ hrd
  subst h1 h2
  show (match optAll (renV (idx _) dep) args, optAll (pickB h (idx _)) _ with
    | some args', some hm => match LL.run f args' hm with
      | some rr => mergeB h _ rr
      | none => none
    | _, _ => none) = _
  rw [h3, h4]
  simp only [h5]
  exact h6
theorem cntU_none {M : Nat} : ∀ n, cntU n M = 0 → ∀ i, i < n → M.testBit i = true := by
  intro n
  induction n with
  | zero => intro _ i hi; omega
  | succ n ih =>
    intro h i hi
    simp only [cntU] at h
    by_cases e : i = n
    · subst e
      cases hb : M.testBit i
      · rw [hb] at h; simp at h
      · rfl
    · exact ih (by omega) i (by omega)
end Go.Proofs.Ytfccmddkblbeoaa.rk
namespace Go.Proofs.Ytfccmddkblbeoaa.rk
open Go.GE
set_option linter.unusedVariables false
set_option linter.unusedSimpArgs false
set_option linter.unusedSectionVars false
set_option maxRecDepth 100000
set_option maxHeartbeats 4000000
def mE (es : List (Nat × Nat)) : List (Value × Value) := es.map fun p => (wv p.1, iv p.2)
def fmB (es : List (Nat × Nat)) : Blk := .map (mE es)
theorem findA_mE {M : Nat} : ∀ (es : List (Nat × Nat)) (j : Nat), (∃ (i v : Nat), findA (wv M) (mE es) j = some (some (j + i, iv v)) ∧ es[i]? = some (M, v)) ∨ (findA (wv M) (mE es) j = some none ∧ ∀ p, p ∈ es → p.1 ≠ M) := by
  intro es
  induction es with
  | nil => intro j; exact .inr ⟨rfl, fun p hp => by cases hp⟩
  | cons q es ih =>
    intro j
    obtain ⟨x, v⟩ := q
    have e : findA (wv M) (mE ((x, v) :: es)) j = if M = x then some (some (j, iv v)) else findA (wv M) (mE es) (j + 1) := by
      simp only [mE, List.map_cons, findA, sameK]
      by_cases h : M = x
      · subst h; simp
      · have : ((M : Int) == (x : Int)) = false := by simp; omega
        simp [h, this]
    by_cases h : M = x
    · subst h
      refine .inl ⟨0, v, ?_, rfl⟩
      rw [e, if_pos rfl]; rfl
    · rcases ih (j + 1) with ⟨i, u, h1, h2⟩ | ⟨h1, h2⟩
      · refine .inl ⟨i + 1, u, ?_, h2⟩
        rw [e, if_neg h, h1, show j + 1 + i = j + (i + 1) by omega]
      · refine .inr ⟨by rw [e, if_neg h, h1], fun p hp => ?_⟩
        rcases List.mem_cons.1 hp with rfl | hp
        · exact fun hh => h hh.symm
        · exact h2 p hp
theorem mE_set {es : List (Nat × Nat)} {i M v : Nat} : (mE es).set i (wv M, iv v) = mE (es.set i (M, v)) := by simp [mE, List.map_set]
theorem mE_app {es : List (Nat × Nat)} {M v : Nat} : mE es ++ [(wv M, iv v)] = mE (es ++ [(M, v)]) := by simp [mE]
theorem renP_mE {f : Nat → Option Nat} : ∀ {es : List (Nat × Nat)}, renP f (mE es) = some (mE es) := by
  intro es
  induction es with
  | nil => rfl
  | cons q es ih =>
    have : mE (q :: es) = (wv q.1, iv q.2) :: mE es := rfl
    rw [this]
    simp only [renP, ih]
    rfl
theorem fm_ren {f : Nat → Option Nat} {es : List (Nat × Nat)} : renB f (fmB es) = some (fmB es) := by
  simp only [fmB, renB, renP_mE, Option.map_some]
theorem fm_ptr {es : List (Nat × Nat)} : ptrB (fmB es) = [] := by
  simp only [fmB, ptrB, List.flatMap_eq_nil_iff]
  intro p hp
  simp only [mE, List.mem_map] at hp
  obtain ⟨q, _, rfl⟩ := hp
  rfl
theorem ptrV_map {d b : Nat} : ptrV (d + 1) (.map (some b)) = [b] := rfl
theorem renV_map {f : Nat → Option Nat} {d b : Nat} : renV f (d + 1) (.map (some b)) = (f b).map fun b' => .map (some b') := rfl
/-- a look-up -/
def lookM (h : List Blk) (b M : Nat) : Option OR := match h[b]? with
  | some (.map es) => match findA (wv M) es 0 with
    | some r => some ⟨.tuple #[(r.map (·.2)).getD (iv 0), .bool r.isSome], h, [b], []⟩
    | none => none
  | _ => none
def updM (h : List Blk) (b M : Nat) (v : Value) : Option OR := match h[b]? with
  | some (.map es) => match findA (wv M) es 0 with
    | some (some (i, _)) => some ⟨undef, h.set b (.map (es.set i (wv M, v))), [b], [b]⟩
    | some none => some ⟨undef, h.set b (.map (es ++ [(wv M, v)])), [b], [b]⟩
    | none => none
  | _ => none
/-- a look-up, its operands told -/
def lookX (P : Program) (t : TypeId) (h : List Blk) (x k : Option Value) (ok : Bool) : Option OR := match P.underlying t, x, k with
    | some (.map kt et), some (.map m), some kv => match P.underlying kt, zeroA P et, (match m with | none => some ([], []) | some b => (mapAt h b).map fun es => (es, [b])) with
      | some kd, some z, some (es, rd) => cond (keyKind kd kv) (match findA kv es 0 with
        | some r => some ⟨if ok then .tuple #[(r.map (·.2)).getD z, .bool r.isSome] else (r.map (·.2)).getD z, h, rd, []⟩
        | none => none) none
      | _, _, _ => none
    | _, _, _ => none
def updX (P : Program) (t : TypeId) (h : List Blk) (m k v : Option Value) : Option OR := match m, k, v with
    | some m, some k, some v => updA P h t m k v
    | _, _, _ => none
section
variable {σ : Tm} {h : List Blk} {d : Option Nat} {ty : TypeId} {pos : String} {af : Array Edge} {g : Option (Nat × Bool)} {t : TypeId} {x y z : Operand} {ok : Bool}
theorem o_look : aop Try.prog LL σ h ⟨d, .lookup t x y ok, ty, pos, af, g⟩ = lookX Try.prog t h (opd σ x) (opd σ y) ok := rfl
theorem o_mapU : aop Try.prog LL σ h ⟨d, .mapUpdate t x y z, ty, pos, af, g⟩ = updX Try.prog t h (opd σ x) (opd σ y) (opd σ z) := rfl
theorem o_insert : aop Try.prog LL σ h ⟨d, .insert t x y z, ty, pos, af, g⟩ = updX Try.prog t h (opd σ x) (opd σ y) (opd σ z) := rfl
end
theorem look108 {h : List Blk} {b M : Nat} : lookX Try.prog 108 h (some (.map (some b))) (some (wv M)) true = lookM h b M := by
  have e1 : Try.prog.underlying 108 = some (.map 77 3) := by kernel_rfl
  have e2 : Try.prog.underlying 77 = some (.int .u32) := by kernel_rfl
  have e3 : zeroA Try.prog 3 = some (iv 0) := by kernel_rfl
  simp only [lookX, e1, e2, e3, lookM, mapAt]
  rcases h[b]? with _ | blk
  · rfl
  · cases blk <;> first | rfl | (simp [keyKind]; done) | (simp [keyKind]; rfl)
theorem upd108 {h : List Blk} {b M : Nat} {v : Value} : updX Try.prog 108 h (some (.map (some b))) (some (wv M)) (some v) = updM h b M v := by
  have e1 : Try.prog.underlying 108 = some (.map 77 3) := by kernel_rfl
  have e2 : Try.prog.underlying 77 = some (.int .u32) := by kernel_rfl
  simp only [updX, updA, e1, e2, updM, mapAt]
  rcases h[b]? with _ | blk
  · rfl
  · cases blk <;> first | rfl | (simp [keyKind]; done) | (simp [keyKind]; rfl)
theorem o_makeMap {σ : Tm} {h : List Blk} {d : Option Nat} {ty : TypeId} {pos : String} {af : Array Edge} {g : Option (Nat × Bool)} {t : TypeId} : aop Try.prog LL σ h ⟨d, .makeMap t none, ty, pos, af, g⟩ = allocR h (.map []) fun b => .map (some b) := rfl
theorem look_hit {h : List Blk} {b M i v : Nat} {es : List (Nat × Nat)} (hb : h[b]? = some (fmB es)) (hf : findA (wv M) (mE es) 0 = some (some (i, iv v))) : lookM h b M = some ⟨.tuple #[iv v, .bool true], h, [b], []⟩ := by
  simp only [lookM, hb, fmB, hf]; rfl
theorem look_miss {h : List Blk} {b M : Nat} {es : List (Nat × Nat)} (hb : h[b]? = some (fmB es)) (hf : findA (wv M) (mE es) 0 = some none) : lookM h b M = some ⟨.tuple #[iv 0, .bool false], h, [b], []⟩ := by
  simp only [lookM, hb, fmB, hf]; rfl
/-- what an update leaves -/
def updE (es : List (Nat × Nat)) (M v : Nat) : List (Nat × Nat) := match findA (wv M) (mE es) 0 with
  | some (some (i, _)) => es.set i (M, v)
  | _ => es ++ [(M, v)]
theorem upd_eq {h : List Blk} {b M v : Nat} {es : List (Nat × Nat)} (hb : h[b]? = some (fmB es)) : updM h b M (iv v) = some ⟨undef, h.set b (fmB (updE es M v)), [b], [b]⟩ := by
  simp only [updM, hb, fmB, updE]
  rcases findA_mE (M := M) es 0 with ⟨i, u, h1, _⟩ | ⟨h1, _⟩ <;> rw [h1] <;> simp only [mE_set, mE_app]
theorem updE_mem {es : List (Nat × Nat)} {M v : Nat} {p : Nat × Nat} (hp : p ∈ updE es M v) : p ∈ es ∨ p = (M, v) := by
  unfold updE at hp
  split at hp
  · exact List.mem_or_eq_of_mem_set hp
  · rcases List.mem_append.1 hp with h | h
    · exact .inl h
    · exact .inr (List.mem_singleton.1 h)
theorem updE_key {es : List (Nat × Nat)} {M v K : Nat} (h : ∃ p, p ∈ es ∧ p.1 = K) : ∃ p, p ∈ updE es M v ∧ p.1 = K := by
  obtain ⟨p, hp, hk⟩ := h
  unfold updE
  rcases findA_mE (M := M) es 0 with ⟨i, u, h1, h2⟩ | ⟨h1, _⟩ <;> rw [h1] <;> simp only
  · obtain ⟨j, hj⟩ := List.getElem?_of_mem hp
    rw [Nat.zero_add]
    by_cases hij : i = j
    · subst hij
      rw [h2] at hj; cases hj
      have hl : i < es.length := (List.getElem?_eq_some_iff.1 h2).1
      exact ⟨(M, v), List.mem_of_getElem? (i := i) (by rw [List.getElem?_set]; simp [hl]), hk⟩
    · exact ⟨p, List.mem_of_getElem? (i := j) (by rw [List.getElem?_set]; simp [hij, hj]), hk⟩
  · exact ⟨p, by simp [hp], hk⟩
end Go.Proofs.Ytfccmddkblbeoaa.rk
namespace Go.Proofs.Ytfccmddkblbeoaa.rk
open Go.GE
set_option linter.unusedVariables false
set_option linter.unusedSimpArgs false
set_option linter.unusedSectionVars false
set_option maxRecDepth 100000
set_option maxHeartbeats 4000000
attribute [local simp] runOps_nil runOps_cons runOpsF_nil runOpsF_cons fstS_some fstF_some opStep_eq want_none oStep_true oStep_false fin_pure fin_read fin_alloc fin_write storeB wrN cellV addWr o_move o_assign o_pick o_alloc o_box o_load o_store o_nilCheck o_bin o_un o_extract o_callV o_callB o_callI callV_f callV_y callV_fc o_makeFunc partsA Instr.fill builtin_len builtin_max2 bin_add bin_sub bin_mul bin_quo bin_rem bin_lss bin_leq bin_gtr bin_geq bin_eql bin_neq un_neg un_not bin_shr bin_shl wrap_u64_id opd opds optAll putO nbeq nblt constOk isC ops sub cl cr co bodyOf thenS_normal thenS_ret thenS_exit thenS_goto afterN_normal afterN_ret afterN_exit afterN_goto condS_true condS_false blockS_normal blockS_ret blockS_exit blockS_goto headS normS normK_eq fixS_nil fixS_cons fix1 fixV emptyB keepO_nil keepO_cons roundC_normal roundC_exit roundC_ret roundC_goto sweep_eq sweepD rnm pickR pickW rootsB ptrT renT ptrFn renFn ptrB_flat ptrB_non renB_flat renB_non plainS_some drawS_some fpsOk disj unord range' dropTo enumT undef wrap_i64_id Value.cells mkCells ptrTo scal cellsAt rdN endS_ret resultsA Option.bind_some tupV finish reachN dep ptrL_eq ptrL renL_eq renL ptrV_bool ptrV_int ptrV_string ptrV_nilFunc ptrV_nilIface ptrV_nilPtr ptrV_ptr ptrV_nilSl ptrV_sl ptrV_iface ptrV_agg ptrV_tuple ptrV_func renV_bool renV_int renV_string renV_nilFunc renV_nilIface renV_nilPtr renV_ptr renV_nilSl renV_sl renV_iface renV_agg renV_tuple renV_func gotoS_goto gotoS_normal gotoS_exit gotoS_ret skip_seq sliceE bnd bndHi intOf optOpd keepT_nil keepT_cons keepC_t keepC_f lk_nil lk_cons lkC_t lkC_f has_nil has_cons hasC_t hasC_f rep_nil rep_cons repC_t repC_f put_eq putC_t putC_f mem_nil mem_cons memC_t memC_f idx_nil idx_cons idxC_t idxC_f reach_nil reachP_cons reachQ_t reachQ_f ptrB_dead renB_dead ins_eq
attribute [local simp] n78_1s n78_3s n78_4s n78_2s n78_0s Try.f78
def cS (f : Nat → Nat) : Nat → Nat → Nat → Nat
  | 0, _, a => a
  | k + 1, i, a => cS f k (i + 1) (a + f i)
def cR (nx : Nat → Nat → Bool) (n : Nat) : Nat → Nat → Nat
  | 0, _ => 1
  | k + 1, M => cS (fun i => cond (nx M i) (cR nx n k (M ||| 2 ^ i)) 0) n 0 0
def cF (nx : Nat → Nat → Bool) (n k M : Nat) : Nat → Nat := fun i => cond (nx M i) (cR nx n k (M ||| 2 ^ i)) 0
theorem cS_le {f : Nat → Nat} {B : Nat} (h : ∀ i, f i ≤ B) : ∀ k i a, cS f k i a ≤ a + k * B := by
  intro k
  induction k with
  | zero => intro i a; simp [cS]
  | succ k ih =>
    intro i a
    have := ih (i + 1) (a + f i)
    have := h i
    simp only [cS, Nat.add_mul]
    omega
theorem cR_le {nx : Nat → Nat → Bool} {n : Nat} : ∀ k M, cR nx n k M ≤ n ^ k := by
  intro k
  induction k with
  | zero => intro M; simp [cR]
  | succ k ih =>
    intro M
    have := cS_le (f := fun i => cond (nx M i) (cR nx n k (M ||| 2 ^ i)) 0) (B := n ^ k) (fun i => by
      cases nx M i
      · exact Nat.zero_le _
      · exact ih _) n 0 0
    simp only [cR]
    rw [Nat.pow_succ, Nat.mul_comm]
    omega
theorem pow_le12 {n k : Nat} (hn : n ≤ 12) (hk : k ≤ 12) : n ^ k ≤ 8916100448256 := by
  have h1 : n ^ k ≤ 12 ^ k := Nat.pow_le_pow_left hn k
  have h2 : 12 ^ k ≤ 12 ^ 12 := Nat.pow_le_pow_right (by decide) hk
  have h3 : (12 : Nat) ^ 12 = 8916100448256 := by decide
  omega
theorem cntU_le {n M : Nat} : cntU n M ≤ n := by
  induction n with
  | zero => exact Nat.le_refl _
  | succ n ih => simp only [cntU]; split <;> omega
theorem all_bits {n M : Nat} (hM : M < 2 ^ n) (h : cntU n M = 0) : M = 2 ^ n - 1 := by
  apply Nat.eq_of_testBit_eq
  intro i
  rw [Nat.testBit_two_pow_sub_one]
  by_cases hi : i < n
  · rw [cntU_none n h i hi]; simp [hi]
  · rw [Nat.testBit_lt_two_pow (Nat.lt_of_lt_of_le hM (Nat.pow_le_pow_right (by decide) (by omega)))]; simp [hi]
theorem cntU_all {n : Nat} : ∀ k, k ≤ n → cntU k (2 ^ n - 1) = 0 := by
  intro k
  induction k with
  | zero => intro _; rfl
  | succ k ih => intro h; simp only [cntU, ih (by omega), Nat.testBit_two_pow_sub_one, show k < n by omega, decide_true, if_true]
/-- what the table holds is true -/
def InvR (nx : Nat → Nat → Bool) (n : Nat) (es : List (Nat × Nat)) : Prop := (∀ p, p ∈ es → p.1 < 2 ^ n ∧ p.2 = cR nx n (cntU n p.1) p.1) ∧ ∃ p, p ∈ es ∧ p.1 = 2 ^ n - 1
theorem InvR.upd {nx : Nat → Nat → Bool} {n : Nat} {es : List (Nat × Nat)} (h : InvR nx n es) {M : Nat} (hM : M < 2 ^ n) : InvR nx n (updE es M (cR nx n (cntU n M) M)) := by
  refine ⟨fun p hp => ?_, updE_key h.2⟩
  rcases updE_mem hp with hp | rfl
  · exact h.1 p hp
  · exact ⟨hM, rfl⟩
abbrev mayB : Blk := .cells [.func (.func 78) #[] #[]] 1 false true
section
variable (off n c : Nat) (cs : List Value) (own : Bool)
abbrev HR0 (es eb : List (Nat × Nat)) : List Blk := [.cells [.map (some 1), .func (.func 80) #[] #[pp 2, pp 4, pp 5]] 1 false true, fmB es, .cells [sl 3 off n c] 1 false true, .cells cs 2 true own, mayB,
  .cells [pp 6] 1 false true, .cells [sl 3 off n c, pp 0, pp 7] 1 false true, .cells [.map (some 8), .func (.func 81) #[] #[pp 2, pp 5]] 1 false true, fmB eb]
abbrev HC0 (es eb : List (Nat × Nat)) : List Blk := [.cells [sl 1 off n c] 1 false true, .cells cs 2 true own, mayB, .cells [pp 4] 1 false true, .cells [sl 1 off n c, pp 5, pp 7] 1 false true,
  .cells [.map (some 6), .func (.func 80) #[] #[pp 0, pp 2, pp 3]] 1 false true, fmB es, .cells [.map (some 8), .func (.func 81) #[] #[pp 0, pp 3]] 1 false true, fmB eb]
theorem k78 (M i : Nat) (h : List Blk) : callH LL 78 [wv M, iv i] h = some ⟨.bool true, h, [], []⟩ := by
  refine callH_plain (go (by decide) ?_) rfl rfl
  rw [run78 _ _ _ (by simp)]
  simp (maxSteps := 1000000) (disch := first | omega | decide | assumption | simp [scal])
theorem rchC (es eb : List (Nat × Nat)) : reach (HC0 off n c cs own es eb) 0 reachN [5] [] = [5, 6, 0, 1, 2, 3, 4, 7, 8] := by
  simp only [reachP_cons, nblt, nbeq, mem_nil, mem_cons, memC_t, memC_f, reachQ_f, reachQ_t, Bool.or_false, Bool.or_true, Bool.false_or, Bool.true_or, decide_false, decide_true, Nat.not_lt_zero, rootsB, List.getElem?_cons_succ, List.getElem?_cons_zero, ptrB_non, ptrB_flat, ptrL_eq, ptrL, ptrV_bool, ptrV_int, ptrV_string, ptrV_nilFunc, ptrV_nilIface, ptrV_nilPtr, ptrV_nilSl, ptrV_iface, ptrV_agg, ptrV_tuple, ptrV_func, ptrV_ptr, ptrV_sl, dep, ptrFn, List.nil_append, List.cons_append, List.append_nil, reach_nil, reachN, Nat.reduceEqDiff, Nat.reduceAdd, Nat.reduceSub, reduceCtorEq, Nat.reduceLT, Nat.lt_irrefl, List.flatMap_cons, List.flatMap_nil, optAll, renL_eq, renL, renB_flat, renB_non, renV_bool, renV_int, renV_string, renV_nilFunc, renV_nilIface, renV_nilPtr, renV_ptr, renV_nilSl, renV_sl, renV_iface, renV_agg, renV_tuple, renV_func, renFn, idx_nil, idx_cons, idxC_t, idxC_f, Option.map_some, Option.map_none, fm_ptr, ptrV_map]
theorem pickC (es eb : List (Nat × Nat)) : optAll (pickB (HC0 off n c cs own es eb) (idx [5, 6, 0, 1, 2, 3, 4, 7, 8])) [5, 6, 0, 1, 2, 3, 4, 7, 8] = some (HR0 off n c cs own es eb) := by
  simp (maxSteps := 1000000) (disch := first | omega | decide | assumption | simp [scal]) [pickB, renV_map, fm_ren]
theorem callG0 {es es' eb : List (Nat × Nat)} {M v : Nat} {ws : List (Nat × Blk)} (h : LL.run 60 [pp 0, wv M] (HR0 off n c cs own es eb) = some ⟨iv v, [], ws⟩) (hw : (ws = [] ∧ es' = es) ∨ ws = [(1, fmB es')]) :
    ∃ wr, ((wr = [] ∧ es' = es) ∨ wr = [6]) ∧ callH LL 60 [pp 5, wv M] (HC0 off n c cs own es eb) = some ⟨iv v, HC0 off n c cs own es' eb, [5, 6, 0, 1, 2, 3, 4, 7, 8], wr⟩ := by
  rcases hw with ⟨rfl, rfl⟩ | rfl
  · exact ⟨[], .inl ⟨rfl, rfl⟩, callH_lit (by intro _; first | trivial | rfl) rfl (rchC ..) rfl (pickC ..) h (by simp [mergeB, renV_int, dep, optAll]) (by simp)⟩
  · exact ⟨[6], .inr rfl, callH_lit (by intro _; first | trivial | rfl) rfl (rchC ..) rfl (pickC ..) h (by simp [mergeB, renV_int, dep, optAll, fm_ren]) (by simp)⟩
end
end Go.Proofs.Ytfccmddkblbeoaa.rk
namespace Go.Proofs.Ytfccmddkblbeoaa.rk
open Go.GE
set_option linter.unusedVariables false
set_option linter.unusedSimpArgs false
set_option linter.unusedSectionVars false
set_option maxRecDepth 100000
set_option maxHeartbeats 4000000
attribute [local simp] runOps_nil runOps_cons runOpsF_nil runOpsF_cons fstS_some fstF_some opStep_eq want_none oStep_true oStep_false fin_pure fin_read fin_alloc fin_write storeB wrN cellV addWr o_move o_assign o_pick o_alloc o_box o_load o_store o_nilCheck o_bin o_un o_extract o_callV o_callB o_callI callV_f callV_y callV_fc o_makeFunc partsA Instr.fill builtin_len builtin_max2 bin_add bin_sub bin_mul bin_quo bin_rem bin_lss bin_leq bin_gtr bin_geq bin_eql bin_neq un_neg un_not bin_shr bin_shl wrap_u64_id opd opds optAll putO nbeq nblt constOk isC ops sub cl cr co bodyOf thenS_normal thenS_ret thenS_exit thenS_goto afterN_normal afterN_ret afterN_exit afterN_goto condS_true condS_false blockS_normal blockS_ret blockS_exit blockS_goto headS normS normK_eq fixS_nil fixS_cons fix1 fixV emptyB keepO_nil keepO_cons roundC_normal roundC_exit roundC_ret roundC_goto sweep_eq sweepD rnm pickR pickW rootsB ptrT renT ptrFn renFn ptrB_flat ptrB_non renB_flat renB_non plainS_some drawS_some fpsOk disj unord range' dropTo enumT undef wrap_i64_id Value.cells mkCells ptrTo scal cellsAt rdN endS_ret resultsA Option.bind_some tupV finish reachN dep ptrL_eq ptrL renL_eq renL ptrV_bool ptrV_int ptrV_string ptrV_nilFunc ptrV_nilIface ptrV_nilPtr ptrV_ptr ptrV_nilSl ptrV_sl ptrV_iface ptrV_agg ptrV_tuple ptrV_func renV_bool renV_int renV_string renV_nilFunc renV_nilIface renV_nilPtr renV_ptr renV_nilSl renV_sl renV_iface renV_agg renV_tuple renV_func gotoS_goto gotoS_normal gotoS_exit gotoS_ret skip_seq sliceE bnd bndHi intOf optOpd keepT_nil keepT_cons keepC_t keepC_f lk_nil lk_cons lkC_t lkC_f has_nil has_cons hasC_t hasC_f rep_nil rep_cons repC_t repC_f put_eq putC_t putC_f mem_nil mem_cons memC_t memC_f idx_nil idx_cons idxC_t idxC_f reach_nil reachP_cons reachQ_t reachQ_f ptrB_dead renB_dead ins_eq
attribute [local simp] n80_1s n80_3s n80_6s n80_10s n80_13s n80_14s n80_12s n80_18s n80_20s n80_22s n80_23s n80_21s n80_19s n80_17s n80_16s n80_24s n80_15s n80_11s n80_9s n80_8s n80_8g n80_7s n80_5s n80_26s n80_27s n80_25s n80_4s n80_2s n80_0s Try.f80
section
variable (off n c : Nat) {cs : List Value} {own : Bool} {l : Nat → Int × Int}
def GetOK (nx : Nat → Nat → Bool) (HH : List (Nat × Nat) → List (Nat × Nat) → List Blk) (n k : Nat) (eb : List (Nat × Nat)) : Prop := ∀ es M, InvR nx n es → M < 2 ^ n → cntU n M = k →
  ∃ es' ws, InvR nx n es' ∧ ((ws = [] ∧ es' = es) ∨ ws = [(1, fmB es')]) ∧ LL.run 60 [pp 0, wv M] (HH es eb) = some ⟨iv (cR nx n k M : Nat), [], ws⟩
theorem l80 (hc : SpC cs off n l) (hn : n ≤ 12) (eb : List (Nat × Nat)) (k : Nat) (hget : GetOK (nxB l n) (HR0 off n c cs own) n k eb) (M : Nat) (hM : M < 2 ^ n) (hk : cntU n M = k + 1) :
    ∀ (q j a : Nat) (es : List (Nat × Nat)) (wr : List Nat), j + q = n → InvR (nxB l n) n es → (wr = [] ∨ wr = [6]) → a + q * n ^ k ≤ 1000000000000000 →
    ∃ es' wr', InvR (nxB l n) n es' ∧ ((wr' = wr ∧ es' = es) ∨ wr' = [6]) ∧
      lpB Try.prog LL ⟨80, 35, 9, none⟩ n80_8 n80_9 ⟨[(0, wv M), (1, pp 0), (2, pp 2), (3, pp 3), (6, iv a), (9, iv n), (10, iv j)], HC0 off n c cs own es eb, wr⟩ =
      some (.exit 0, ⟨[(6, iv (cS (cF (nxB l n) n k M) q j a : Nat))], HC0 off n c cs own es' eb, wr'⟩) := by
  have hM32 : M < 2 ^ 32 := Nat.lt_of_lt_of_le hM (Nat.pow_le_pow_right (by decide) (by omega))
  intro q
  induction q with
  | zero =>
    intro j a es wr hj hi hw hb
    obtain rfl : j = n := by omega
    refine ⟨es, wr, hi, .inl ⟨rfl, rfl⟩, ?_⟩
    simp only [cS]
    rw [lpB_eq]
    rcases hw with rfl | rfl
    · simp (maxSteps := 1000000) (disch := first | omega | decide | assumption | simp [scal]) [loadA_eq ia_78, lenA_sl lk_78, loadA_eq ia_79, loadA_eq ia_85, o_fieldAddr fa_90_1 (by decide), loadA_eq ia_88, want_some q80_20g4, fm_ptr, fm_ren, ptrV_map, renV_map]
    · simp (maxSteps := 1000000) (disch := first | omega | decide | assumption | simp [scal]) [loadA_eq ia_78, lenA_sl lk_78, loadA_eq ia_79, loadA_eq ia_85, o_fieldAddr fa_90_1 (by decide), loadA_eq ia_88, want_some q80_20g4, fm_ptr, fm_ren, ptrV_map, renV_map]
  | succ q ih =>
    intro j a es wr hj hi hw hb
    have e0 : j < n := by omega
    have e1 : (j : Int) < n := by omega
    have a1 := fun b0 bx => k53 1 off n c (h := b0 :: .cells cs 2 true own :: bx) rfl hc (by omega) M j hM32 e0
    have a2 := k54 M j hM32 (by omega)
    have a3 := k78 M j
    rw [Nat.add_mul] at hb
    cases h : nxB l n M j
    · rw [h] at a1
      have hf : cF (nxB l n) n k M j = 0 := by simp only [cF, h, cond_false]
      obtain ⟨es', wr', i1, i2, i3⟩ := ih (j + 1) (a + 0) es wr (by omega) hi hw (by omega)
      refine ⟨es', wr', i1, i2, ?_⟩
      simp only [cS, hf]
      simp only [cast1, Nat.add_zero] at i3 ⊢
      generalize cS (cF (nxB l n) n k M) q (j + 1) a = Z at *
      rw [lpB_eq]
      clear ih hget
      rcases hw with rfl | rfl
      · simp (maxSteps := 1000000) (disch := first | omega | decide | assumption | simp [scal]) [loadA_eq ia_78, lenA_sl lk_78, loadA_eq ia_79, loadA_eq ia_85, o_fieldAddr fa_90_1 (by decide), loadA_eq ia_88, want_some q80_20g4, e0, e1, a1, fm_ptr, fm_ren, ptrV_map, renV_map, i3]
      · simp (maxSteps := 1000000) (disch := first | omega | decide | assumption | simp [scal]) [loadA_eq ia_78, lenA_sl lk_78, loadA_eq ia_79, loadA_eq ia_85, o_fieldAddr fa_90_1 (by decide), loadA_eq ia_88, want_some q80_20g4, e0, e1, a1, fm_ptr, fm_ren, ptrV_map, renV_map, i3]
    · rw [h] at a1
      have hb0 : M.testBit j = false := by
        unfold nxB at h
        simp only [Bool.and_eq_true, Bool.not_eq_true'] at h
        exact h.1
      have hcn := cntU_lt hb0 n e0
      have h2 : M ||| 2 ^ j < 2 ^ n := Nat.or_lt_two_pow hM (Nat.pow_lt_pow_right (by decide) e0)
      obtain ⟨es1, ws, g1, g2, g3⟩ := hget es (M ||| 2 ^ j) hi h2 (by omega)
      obtain ⟨wr1, g4, g5⟩ := callG0 off n c cs own g3 g2
      have hf : cF (nxB l n) n k M j = cR (nxB l n) n k (M ||| 2 ^ j) := by simp only [cF, h, cond_true]
      have hv : cR (nxB l n) n k (M ||| 2 ^ j) ≤ n ^ k := cR_le _ _
      simp only [cS, hf]
      generalize cR (nxB l n) n k (M ||| 2 ^ j) = v at *
      generalize M ||| 2 ^ j = M2 at *
      clear g3 hf h2 hcn
      have hwrap : IntKind.i64.wrap ((a : Int) + (v : Int)) = ((a + v : Nat) : Int) := by rw [wrap_i64_id (by omega) (by omega)]; rfl
      have go : ∀ wr2, (wr2 = [] ∨ wr2 = [6]) → ((wr2 = wr ∧ es1 = es) ∨ wr2 = [6]) → _ := fun wr2 x y => ih (j + 1) (a + v) es1 wr2 (by omega) g1 x (by omega)
      clear ih hget
      rcases g4 with ⟨rfl, rfl⟩ | rfl
      · obtain ⟨es', wr', i1, i2, i3⟩ := go wr hw (.inl ⟨rfl, rfl⟩)
        refine ⟨es', wr', i1, i2, ?_⟩
        simp only [cast1] at i3 ⊢
        generalize cS (cF (nxB l n) n k M) q (j + 1) (a + v) = Z at *
        generalize ((a + v : Nat) : Int) = av at *
        rw [lpB_eq]
        rcases hw with rfl | rfl
        · simp (maxSteps := 1000000) (disch := first | omega | decide | assumption | simp [scal]) [loadA_eq ia_78, lenA_sl lk_78, loadA_eq ia_79, loadA_eq ia_85, o_fieldAddr fa_90_1 (by decide), loadA_eq ia_88, want_some q80_20g4, e0, e1, a1, a2, a3, g5, hwrap, callV_f, callV_fc, fm_ptr, fm_ren, ptrV_map, renV_map, i3]
        · simp (maxSteps := 1000000) (disch := first | omega | decide | assumption | simp [scal]) [loadA_eq ia_78, lenA_sl lk_78, loadA_eq ia_79, loadA_eq ia_85, o_fieldAddr fa_90_1 (by decide), loadA_eq ia_88, want_some q80_20g4, e0, e1, a1, a2, a3, g5, hwrap, callV_f, callV_fc, fm_ptr, fm_ren, ptrV_map, renV_map, i3]
      · obtain ⟨es', wr', i1, i2, i3⟩ := go [6] (.inr rfl) (.inr rfl)
        refine ⟨es', wr', i1, .inr (by rcases i2 with ⟨h1, _⟩ | h1 <;> exact h1), ?_⟩
        simp only [cast1] at i3 ⊢
        generalize cS (cF (nxB l n) n k M) q (j + 1) (a + v) = Z at *
        generalize ((a + v : Nat) : Int) = av at *
        rw [lpB_eq]
        rcases hw with rfl | rfl
        · simp (maxSteps := 1000000) (disch := first | omega | decide | assumption | simp [scal]) [loadA_eq ia_78, lenA_sl lk_78, loadA_eq ia_79, loadA_eq ia_85, o_fieldAddr fa_90_1 (by decide), loadA_eq ia_88, want_some q80_20g4, e0, e1, a1, a2, a3, g5, hwrap, callV_f, callV_fc, fm_ptr, fm_ren, ptrV_map, renV_map, i3]
        · simp (maxSteps := 1000000) (disch := first | omega | decide | assumption | simp [scal]) [loadA_eq ia_78, lenA_sl lk_78, loadA_eq ia_79, loadA_eq ia_85, o_fieldAddr fa_90_1 (by decide), loadA_eq ia_88, want_some q80_20g4, e0, e1, a1, a2, a3, g5, hwrap, callV_f, callV_fc, fm_ptr, fm_ren, ptrV_map, renV_map, i3]
end
end Go.Proofs.Ytfccmddkblbeoaa.rk
namespace Go.Proofs.Ytfccmddkblbeoaa.rk
open Go.GE
set_option linter.unusedVariables false
set_option linter.unusedSimpArgs false
set_option linter.unusedSectionVars false
set_option maxRecDepth 100000
set_option maxHeartbeats 4000000
attribute [local simp] runOps_nil runOps_cons runOpsF_nil runOpsF_cons fstS_some fstF_some opStep_eq want_none oStep_true oStep_false fin_pure fin_read fin_alloc fin_write storeB wrN cellV addWr o_move o_assign o_pick o_alloc o_box o_load o_store o_nilCheck o_bin o_un o_extract o_callV o_callB o_callI callV_f callV_y callV_fc o_makeFunc partsA Instr.fill builtin_len builtin_max2 bin_add bin_sub bin_mul bin_quo bin_rem bin_lss bin_leq bin_gtr bin_geq bin_eql bin_neq un_neg un_not bin_shr bin_shl wrap_u64_id opd opds optAll putO nbeq nblt constOk isC ops sub cl cr co bodyOf thenS_normal thenS_ret thenS_exit thenS_goto afterN_normal afterN_ret afterN_exit afterN_goto condS_true condS_false blockS_normal blockS_ret blockS_exit blockS_goto headS normS normK_eq fixS_nil fixS_cons fix1 fixV emptyB keepO_nil keepO_cons roundC_normal roundC_exit roundC_ret roundC_goto sweep_eq sweepD rnm pickR pickW rootsB ptrT renT ptrFn renFn ptrB_flat ptrB_non renB_flat renB_non plainS_some drawS_some fpsOk disj unord range' dropTo enumT undef wrap_i64_id Value.cells mkCells ptrTo scal cellsAt rdN endS_ret resultsA Option.bind_some tupV finish reachN dep ptrL_eq ptrL renL_eq renL ptrV_bool ptrV_int ptrV_string ptrV_nilFunc ptrV_nilIface ptrV_nilPtr ptrV_ptr ptrV_nilSl ptrV_sl ptrV_iface ptrV_agg ptrV_tuple ptrV_func renV_bool renV_int renV_string renV_nilFunc renV_nilIface renV_nilPtr renV_ptr renV_nilSl renV_sl renV_iface renV_agg renV_tuple renV_func gotoS_goto gotoS_normal gotoS_exit gotoS_ret skip_seq sliceE bnd bndHi intOf optOpd keepT_nil keepT_cons keepC_t keepC_f lk_nil lk_cons lkC_t lkC_f has_nil has_cons hasC_t hasC_f rep_nil rep_cons repC_t repC_f put_eq putC_t putC_f mem_nil mem_cons memC_t memC_f idx_nil idx_cons idxC_t idxC_f reach_nil reachP_cons reachQ_t reachQ_f ptrB_dead renB_dead ins_eq
attribute [local simp] n80_1s n80_3s n80_6s n80_10s n80_13s n80_14s n80_12s n80_18s n80_20s n80_22s n80_23s n80_21s n80_19s n80_17s n80_16s n80_24s n80_15s n80_11s n80_9s n80_8s n80_8g n80_7s n80_5s n80_26s n80_27s n80_25s n80_4s n80_2s n80_0s Try.f80 n60_1s n60_3s n60_6s n60_9s n60_10s n60_8s n60_11s n60_7s n60_5s n60_13s n60_14s n60_12s n60_4s n60_2s n60_0s Try.f60
section
variable (off n c : Nat) {cs : List Value} {own : Bool} {l : Nat → Int × Int}
theorem rchR (es eb : List (Nat × Nat)) : reach (HR0 off n c cs own es eb) 0 reachN [2, 4, 5] [] = [2, 3, 4, 5, 6, 0, 1, 7, 8] := by
  simp only [reachP_cons, nblt, nbeq, mem_nil, mem_cons, memC_t, memC_f, reachQ_f, reachQ_t, Bool.or_false, Bool.or_true, Bool.false_or, Bool.true_or, decide_false, decide_true, Nat.not_lt_zero, rootsB, List.getElem?_cons_succ, List.getElem?_cons_zero, ptrB_non, ptrB_flat, ptrL_eq, ptrL, ptrV_bool, ptrV_int, ptrV_string, ptrV_nilFunc, ptrV_nilIface, ptrV_nilPtr, ptrV_nilSl, ptrV_iface, ptrV_agg, ptrV_tuple, ptrV_func, ptrV_ptr, ptrV_sl, dep, ptrFn, List.nil_append, List.cons_append, List.append_nil, reach_nil, reachN, Nat.reduceEqDiff, Nat.reduceAdd, Nat.reduceSub, reduceCtorEq, Nat.reduceLT, Nat.lt_irrefl, List.flatMap_cons, List.flatMap_nil, optAll, renL_eq, renL, renB_flat, renB_non, renV_bool, renV_int, renV_string, renV_nilFunc, renV_nilIface, renV_nilPtr, renV_ptr, renV_nilSl, renV_sl, renV_iface, renV_agg, renV_tuple, renV_func, renFn, idx_nil, idx_cons, idxC_t, idxC_f, Option.map_some, Option.map_none, fm_ptr, ptrV_map]
theorem pickR0 (es eb : List (Nat × Nat)) : optAll (pickB (HR0 off n c cs own es eb) (idx [2, 3, 4, 5, 6, 0, 1, 7, 8])) [2, 3, 4, 5, 6, 0, 1, 7, 8] = some (HC0 off n c cs own es eb) := by
  simp (maxSteps := 1000000) (disch := first | omega | decide | assumption | simp [scal]) [pickB, renV_map, fm_ren]
theorem c80 (hc : SpC cs off n l) (hn : n ≤ 12) (eb : List (Nat × Nat)) (k : Nat) (hget : GetOK (nxB l n) (HR0 off n c cs own) n k eb) (M : Nat) (hM : M < 2 ^ n) (hk : cntU n M = k + 1) (es : List (Nat × Nat)) (hi : InvR (nxB l n) n es) :
    ∃ es' wr, InvR (nxB l n) n es' ∧ ((wr = [] ∧ es' = es) ∨ wr = [1]) ∧ callH LL 80 [wv M, pp 2, pp 4, pp 5] (HR0 off n c cs own es eb) = some ⟨iv (cR (nxB l n) n (k + 1) M : Nat), HR0 off n c cs own es' eb, [2, 3, 4, 5, 6, 0, 1, 7, 8], wr⟩ := by
  have hkn : k + 1 ≤ n := by have := cntU_le (n := n) (M := M); omega
  have hp := pow_le12 hn (show k ≤ 12 by omega)
  have hnp : n * n ^ k ≤ 12 * 8916100448256 := Nat.mul_le_mul hn hp
  obtain ⟨es', wr', i1, i2, i3⟩ := l80 off n c (own := own) hc hn eb k hget M hM hk n 0 0 es [] (by omega) hi (.inl rfl) (by omega)
  have hrun : LL.run 80 [wv M, pp 0, pp 2, pp 3] (HC0 off n c cs own es eb) = some ⟨iv (cR (nxB l n) n (k + 1) M : Nat), [], wr'.map fun b => (b, fmB es')⟩ := by
    refine go (by decide) ?_
    rw [run80 _ _ _ (by simp)]
    have hR : cR (nxB l n) n (k + 1) M = cS (cF (nxB l n) n k M) n 0 0 := rfl
    rw [hR]
    generalize cS (cF (nxB l n) n k M) n 0 0 = Z at *
    clear hget
    simp only [Int.natCast_zero] at i3
    rcases i2 with ⟨rfl, rfl⟩ | rfl
    · simp (maxSteps := 1000000) (disch := first | omega | decide | assumption | simp [scal]) [loadA_eq ia_78, lenA_sl lk_78, loadA_eq ia_79, loadA_eq ia_85, o_fieldAddr fa_90_1 (by decide), loadA_eq ia_88, want_some q80_20g4, i3, fm_ptr, fm_ren, ptrV_map, renV_map]
    · simp (maxSteps := 1000000) (disch := first | omega | decide | assumption | simp [scal]) [loadA_eq ia_78, lenA_sl lk_78, loadA_eq ia_79, loadA_eq ia_85, o_fieldAddr fa_90_1 (by decide), loadA_eq ia_88, want_some q80_20g4, i3, fm_ptr, fm_ren, ptrV_map, renV_map]
  rcases i2 with ⟨rfl, rfl⟩ | rfl
  · exact ⟨es', [], i1, .inl ⟨rfl, rfl⟩, callH_lit (by intro _; first | trivial | rfl) rfl (rchR ..) rfl (pickR0 ..) hrun (by simp [mergeB, renV_int, dep, optAll]) (by simp)⟩
  · exact ⟨es', [1], i1, .inr rfl, callH_lit (by intro _; first | trivial | rfl) rfl (rchR ..) rfl (pickR0 ..) hrun (by simp [mergeB, renV_int, dep, optAll, fm_ren]) (by simp)⟩
theorem get_ok (hc : SpC cs off n l) (hn : n ≤ 12) (eb : List (Nat × Nat)) : ∀ k, GetOK (nxB l n) (HR0 off n c cs own) n k eb := by
  have hit : ∀ (es : List (Nat × Nat)) (M i v : Nat), M < 2 ^ n → findA (wv M) (mE es) 0 = some (some (i, iv v)) → LL.run 60 [pp 0, wv M] (HR0 off n c cs own es eb) = some ⟨iv v, [], []⟩ := by
    intro es M i v hM hf
    have fL : lookM (HR0 off n c cs own es eb) 1 M = some ⟨.tuple #[iv v, .bool true], HR0 off n c cs own es eb, [1], []⟩ := look_hit rfl hf
    refine go (by decide) ?_
    rw [run60 _ _ _ (by simp)]
    simp (maxSteps := 1000000) (disch := first | omega | decide | assumption | simp [scal]) [o_fieldAddr fa_110_0 (by decide), loadA_eq ia_108, o_fieldAddr fa_110_1 (by decide), loadA_eq ia_91, o_look, look108, fL, fm_ptr, fm_ren, ptrV_map, renV_map]
  intro k
  induction k with
  | zero =>
    intro es M hi hM hk
    rcases findA_mE (M := M) es 0 with ⟨i, v, h1, h2⟩ | ⟨_, h2⟩
    · have hv := (hi.1 (M, v) (List.mem_of_getElem? h2)).2
      simp only [hk] at hv
      rw [Nat.zero_add] at h1
      refine ⟨es, [], hi, .inl ⟨rfl, rfl⟩, ?_⟩
      rw [← hv]
      exact hit es M i v hM h1
    · obtain ⟨p, hp, he⟩ := hi.2
      exact absurd (he.trans (all_bits hM hk).symm) (h2 p hp)
  | succ k ih =>
    intro es M hi hM hk
    rcases findA_mE (M := M) es 0 with ⟨i, v, h1, h2⟩ | ⟨h1, h2⟩
    · have hv := (hi.1 (M, v) (List.mem_of_getElem? h2)).2
      simp only [hk] at hv
      rw [Nat.zero_add] at h1
      refine ⟨es, [], hi, .inl ⟨rfl, rfl⟩, ?_⟩
      rw [← hv]
      exact hit es M i v hM h1
    · obtain ⟨es', wr, i1, i2, i3⟩ := c80 off n c (own := own) hc hn eb k ih M hM hk es hi
      have hu := i1.upd hM
      rw [hk] at hu
      refine ⟨_, [(1, fmB (updE es' M (cR (nxB l n) n (k + 1) M)))], hu, .inr rfl, ?_⟩
      have fL : lookM (HR0 off n c cs own es eb) 1 M = some ⟨.tuple #[iv 0, .bool false], HR0 off n c cs own es eb, [1], []⟩ := look_miss rfl h1
      generalize cR (nxB l n) n (k + 1) M = Z at *
      have fU : updM (HR0 off n c cs own es' eb) 1 M (iv Z) = some ⟨undef, HR0 off n c cs own (updE es' M Z) eb, [1], [1]⟩ := upd_eq rfl
      clear ih hu hit
      refine go (by decide) ?_
      rw [run60 _ _ _ (by simp)]
      rcases i2 with ⟨rfl, rfl⟩ | rfl
      · simp (maxSteps := 1000000) (disch := first | omega | decide | assumption | simp [scal]) [o_fieldAddr fa_110_0 (by decide), loadA_eq ia_108, o_fieldAddr fa_110_1 (by decide), loadA_eq ia_91, o_look, look108, fL, o_mapU, upd108, fU, i3, callV_fc, fm_ptr, fm_ren, ptrV_map, renV_map]
      · simp (maxSteps := 1000000) (disch := first | omega | decide | assumption | simp [scal]) [o_fieldAddr fa_110_0 (by decide), loadA_eq ia_108, o_fieldAddr fa_110_1 (by decide), loadA_eq ia_91, o_look, look108, fL, o_mapU, upd108, fU, i3, callV_fc, fm_ptr, fm_ren, ptrV_map, renV_map]
end
end Go.Proofs.Ytfccmddkblbeoaa.rk
namespace Go.Proofs.Ytfccmddkblbeoaa.rk
open Go.GE
set_option linter.unusedVariables false
set_option linter.unusedSimpArgs false
set_option linter.unusedSectionVars false
set_option maxRecDepth 100000
set_option maxHeartbeats 4000000
attribute [local simp] runOps_nil runOps_cons runOpsF_nil runOpsF_cons fstS_some fstF_some opStep_eq want_none oStep_true oStep_false fin_pure fin_read fin_alloc fin_write storeB wrN cellV addWr o_move o_assign o_pick o_alloc o_box o_load o_store o_nilCheck o_bin o_un o_extract o_callV o_callB o_callI callV_f callV_y callV_fc o_makeFunc partsA Instr.fill builtin_len builtin_max2 bin_add bin_sub bin_mul bin_quo bin_rem bin_lss bin_leq bin_gtr bin_geq bin_eql bin_neq un_neg un_not bin_shr bin_shl wrap_u64_id opd opds optAll putO nbeq nblt constOk isC ops sub cl cr co bodyOf thenS_normal thenS_ret thenS_exit thenS_goto afterN_normal afterN_ret afterN_exit afterN_goto condS_true condS_false blockS_normal blockS_ret blockS_exit blockS_goto headS normS normK_eq fixS_nil fixS_cons fix1 fixV emptyB keepO_nil keepO_cons roundC_normal roundC_exit roundC_ret roundC_goto sweep_eq sweepD rnm pickR pickW rootsB ptrT renT ptrFn renFn ptrB_flat ptrB_non renB_flat renB_non plainS_some drawS_some fpsOk disj unord range' dropTo enumT undef wrap_i64_id Value.cells mkCells ptrTo scal cellsAt rdN endS_ret resultsA Option.bind_some tupV finish reachN dep ptrL_eq ptrL renL_eq renL ptrV_bool ptrV_int ptrV_string ptrV_nilFunc ptrV_nilIface ptrV_nilPtr ptrV_ptr ptrV_nilSl ptrV_sl ptrV_iface ptrV_agg ptrV_tuple ptrV_func renV_bool renV_int renV_string renV_nilFunc renV_nilIface renV_nilPtr renV_ptr renV_nilSl renV_sl renV_iface renV_agg renV_tuple renV_func gotoS_goto gotoS_normal gotoS_exit gotoS_ret skip_seq sliceE bnd bndHi intOf optOpd keepT_nil keepT_cons keepC_t keepC_f lk_nil lk_cons lkC_t lkC_f has_nil has_cons hasC_t hasC_f rep_nil rep_cons repC_t repC_f put_eq putC_t putC_f mem_nil mem_cons memC_t memC_f idx_nil idx_cons idxC_t idxC_f reach_nil reachP_cons reachQ_t reachQ_f ptrB_dead renB_dead ins_eq
attribute [local simp] n69_1s n69_3s n69_5s n69_7s n69_9s n69_11s n69_12s n69_10s n69_8s n69_6s n69_4s n69_2s n69_0s Try.f69
section
variable (off n c : Nat) {cs : List Value} {own : Bool} {l : Nat → Int × Int}
/-- a counter's blocks: the month's cells are block z, the first of them is block d -/
abbrev NW (z d : Nat) (es eb : List (Nat × Nat)) : List Blk := [.cells [sl z off n c, pp (d + 1), pp (d + 6)] 1 false true, .cells [.map (some (d + 2)), .func (.func 80) #[] #[pp (d + 3), pp (d + 4), pp (d + 5)]] 1 false true, fmB es,
  .cells [sl z off n c] 1 false true, mayB, .cells [pp d] 1 false true, .cells [.map (some (d + 7)), .func (.func 81) #[] #[pp (d + 3), pp (d + 5)]] 1 false true, fmB eb]
theorem k69 (hn : n ≤ 30) : callH LL 69 [sl 0 off n c, .func (.func 78) #[] #[]] [.cells cs 2 true own] = some ⟨pp 1, .cells cs 2 true own :: NW off n c 0 1 [(2 ^ n - 1, 1)] [(0, 1)], [0], []⟩ := by
  have f3 := shl_poww (J := n) (by omega)
  have p1 : 2 ^ n < 2 ^ 32 := Nat.pow_lt_pow_right (by decide) (by omega)
  have p0 : 0 < 2 ^ n := Nat.two_pow_pos n
  have f4 : IntKind.u32.wrap (((2 ^ n : Nat) : Int) - 1) = ((2 ^ n - 1 : Nat) : Int) := by
    rw [show ((2 ^ n : Nat) : Int) - 1 = ((2 ^ n - 1 : Nat) : Int) by omega]
    exact wrap_u32 (by omega)
  have u1 := fun b0 b1 b2 b3 b4 => upd_eq (h := [b0, b1, b2, b3, b4, fmB []]) (b := 5) (M := 2 ^ n - 1) (v := 1) (es := []) rfl
  have u2 := fun b0 b1 b2 b3 b4 b5 b6 => upd_eq (h := [b0, b1, b2, b3, b4, b5, b6, fmB []]) (b := 7) (M := 0) (v := 1) (es := []) rfl
  have hrun : LL.run 69 [sl 0 off n c, .func (.func 78) #[] #[]] [.cells cs 2 true own] = some ⟨pp 1, NW off n c 0 1 [(2 ^ n - 1, 1)] [(0, 1)], []⟩ := by
    refine go (by decide) ?_
    have e1 : updE [] (2 ^ n - 1) 1 = [(2 ^ n - 1, 1)] := rfl
    have e2 : updE [] 0 1 = [(0, 1)] := rfl
    rw [e1] at u1
    rw [e2] at u2
    generalize hE : fmB [(2 ^ n - 1, 1)] = E at *
    generalize hB : fmB [(0, 1)] = B at *
    have q1 : ptrB E = [] := by rw [← hE]; exact fm_ptr
    have q2 : ptrB B = [] := by rw [← hB]; exact fm_ptr
    have q3 : ∀ f, renB f E = some E := by intro f; rw [← hE]; exact fm_ren
    have q4 : ∀ f, renB f B = some B := by intro f; rw [← hB]; exact fm_ren

    have m0 : Blk.map [] = fmB [] := rfl
    have z0 : ∀ h b v, updX Try.prog 108 h (some (.map (some b))) (some (.int .u32 0)) (some v) = updM h b 0 v := fun h b v => upd108 (M := 0)
    generalize 2 ^ n - 1 = A at *
    generalize ((2 ^ n : Nat) : Int) = A2 at *
    simp only [List.set_cons_succ, List.set_cons_zero] at u1 u2
    simp only [Int.natCast_zero, Int.natCast_one] at u1 u2
    rw [run69 _ _ _ (by simp)]
    simp (maxSteps := 1000000) (disch := first | omega | decide | assumption | simp [scal]) [loadA_eq ia_78, za_90, o_build za_90 pl_90, za_85, sz_85, lenA_sl lk_78, loadA_eq ia_85, za_110, o_build za_110 pl_110, o_fieldAddr fa_90_1 (by decide), sz_88, o_fieldAddr fa_90_2 (by decide), loadA_eq ia_88, f3, f4, o_insert, o_makeMap, upd108, z0, m0, u1, u2, q1, q2, q3, q4, fm_ptr, ptrV_map, renV_map]
    exact ⟨hE.symm, hB.symm⟩
  exact callH_lit (by intro _; first | trivial | rfl) (roots := [0]) rfl (ρ := [0]) (by simp only [reachP_cons, nblt, nbeq, mem_nil, mem_cons, memC_t, memC_f, reachQ_f, reachQ_t, Bool.or_false, Bool.or_true, Bool.false_or, Bool.true_or, decide_false, decide_true, Nat.not_lt_zero, rootsB, List.getElem?_cons_succ, List.getElem?_cons_zero, ptrB_non, ptrB_flat, ptrL_eq, ptrL, ptrV_bool, ptrV_int, ptrV_string, ptrV_nilFunc, ptrV_nilIface, ptrV_nilPtr, ptrV_nilSl, ptrV_iface, ptrV_agg, ptrV_tuple, ptrV_func, ptrV_ptr, ptrV_sl, dep, ptrFn, List.nil_append, List.cons_append, List.append_nil, reach_nil, reachN, Nat.reduceEqDiff, Nat.reduceAdd, Nat.reduceSub, reduceCtorEq, Nat.reduceLT, Nat.lt_irrefl, List.flatMap_cons, List.flatMap_nil, optAll, renL_eq, renL, renB_flat, renB_non, renV_bool, renV_int, renV_string, renV_nilFunc, renV_nilIface, renV_nilPtr, renV_ptr, renV_nilSl, renV_sl, renV_iface, renV_agg, renV_tuple, renV_func, renFn, idx_nil, idx_cons, idxC_t, idxC_f, Option.map_some, Option.map_none]) rfl rfl hrun (by simp [mergeB, renV_ptr, dep, optAll, renB_non, renL, renV_sl, renV_map, renV_func, renFn, fm_ren, renL_eq]) (by simp)
end
end Go.Proofs.Ytfccmddkblbeoaa.rk
namespace Go.Proofs.Ytfccmddkblbeoaa.rk
open Go.GE
set_option linter.unusedVariables false
set_option linter.unusedSimpArgs false
set_option linter.unusedSectionVars false
set_option maxRecDepth 100000
set_option maxHeartbeats 4000000
attribute [local simp] runOps_nil runOps_cons runOpsF_nil runOpsF_cons fstS_some fstF_some opStep_eq want_none oStep_true oStep_false fin_pure fin_read fin_alloc fin_write storeB wrN cellV addWr o_move o_assign o_pick o_alloc o_box o_load o_store o_nilCheck o_bin o_un o_extract o_callV o_callB o_callI callV_f callV_y callV_fc o_makeFunc partsA Instr.fill builtin_len builtin_max2 bin_add bin_sub bin_mul bin_quo bin_rem bin_lss bin_leq bin_gtr bin_geq bin_eql bin_neq un_neg un_not bin_shr bin_shl wrap_u64_id opd opds optAll putO nbeq nblt constOk isC ops sub cl cr co bodyOf thenS_normal thenS_ret thenS_exit thenS_goto afterN_normal afterN_ret afterN_exit afterN_goto condS_true condS_false blockS_normal blockS_ret blockS_exit blockS_goto headS normS normK_eq fixS_nil fixS_cons fix1 fixV emptyB keepO_nil keepO_cons roundC_normal roundC_exit roundC_ret roundC_goto sweep_eq sweepD rnm pickR pickW rootsB ptrT renT ptrFn renFn ptrB_flat ptrB_non renB_flat renB_non plainS_some drawS_some fpsOk disj unord range' dropTo enumT undef wrap_i64_id Value.cells mkCells ptrTo scal cellsAt rdN endS_ret resultsA Option.bind_some tupV finish reachN dep ptrL_eq ptrL renL_eq renL ptrV_bool ptrV_int ptrV_string ptrV_nilFunc ptrV_nilIface ptrV_nilPtr ptrV_ptr ptrV_nilSl ptrV_sl ptrV_iface ptrV_agg ptrV_tuple ptrV_func renV_bool renV_int renV_string renV_nilFunc renV_nilIface renV_nilPtr renV_ptr renV_nilSl renV_sl renV_iface renV_agg renV_tuple renV_func gotoS_goto gotoS_normal gotoS_exit gotoS_ret skip_seq sliceE bnd bndHi intOf optOpd keepT_nil keepT_cons keepC_t keepC_f lk_nil lk_cons lkC_t lkC_f has_nil has_cons hasC_t hasC_f rep_nil rep_cons repC_t repC_f put_eq putC_t putC_f mem_nil mem_cons memC_t memC_f idx_nil idx_cons idxC_t idxC_f reach_nil reachP_cons reachQ_t reachQ_f ptrB_dead renB_dead ins_eq
attribute [local simp] n59_1s n59_3s n59_7s n59_10s n59_11s n59_9s n59_13s n59_16s n59_17s n59_15s n59_18s n59_14s n59_12s n59_8s n59_6s n59_5s n59_20s n59_21s n59_19s n59_4s n59_2s n59_0s Try.f59 n23_1s n23_3s n23_6s n23_9s n23_10s n23_8s n23_11s n23_7s n23_5s n23_13s n23_14s n23_12s n23_4s n23_2s n23_0s Try.f23
def cntE (l : Nat → Int × Int) (n : Nat) : Int := if chkS l n = 0 then (if 12 < n then 16 else 0) else chkS l n
def cntV (l : Nat → Int × Int) (n : Nat) : Nat := if cntE l n = 0 then cR (nxB l n) n n 0 else 0
theorem cntE_ok {l : Nat → Int × Int} {n : Nat} (h : cntE l n = 0) : chkS l n = 0 ∧ n ≤ 12 ∧ 1 ≤ n := by
  unfold cntE at h
  split at h
  · rename_i h1
    have := chk_ok h1
    split at h
    · omega
    · exact ⟨h1, by omega, by omega⟩
  · rename_i h1; exact absurd h h1
theorem inv0 {nx : Nat → Nat → Bool} {n : Nat} : InvR nx n [(2 ^ n - 1, 1)] := by
  have := Nat.two_pow_pos n
  refine ⟨fun p hp => ?_, (2 ^ n - 1, 1), by simp, rfl⟩
  simp only [List.mem_singleton] at hp
  subst hp
  refine ⟨by simp only; omega, ?_⟩
  simp only [cntU_all n (Nat.le_refl _), cR]
section
variable (off n c : Nat) {cs : List Value} {own : Bool} {l : Nat → Int × Int}
theorem r59 (hc : SpC cs off n l) (hn : n ≤ 60) : LL.run 59 [sl 0 off n c] [.cells cs 2 true own] = if cntE l n = 0 then some ⟨.tuple #[pp 1, iv 0], NW off n c 0 1 [(2 ^ n - 1, 1)] [(0, 1)], []⟩ else some ⟨.tuple #[.pointer none, iv (cntE l n)], [], []⟩ := by
  have a := k45 0 off n c (h := [.cells cs 2 true own]) rfl hc hn
  by_cases h1 : chkS l n = 0
  · by_cases h2 : 12 < n
    · have e : cntE l n = 16 := by unfold cntE; rw [if_pos h1, if_pos h2]
      rw [if_neg (by omega), e]
      have h2' : (12 : Int) < n := by omega
      rw [h1] at a
      refine go (by decide) ?_
      rw [run59 _ _ _ (by simp)]
      simp (maxSteps := 1000000) (disch := first | omega | decide | assumption | simp [scal]) [lenA_sl lk_22, a, h2']
    · have e : cntE l n = 0 := by unfold cntE; rw [if_pos h1, if_neg h2]
      rw [if_pos e]
      have h2' : ¬ (12 : Int) < n := by omega
      have k := k69 off n c (cs := cs) (own := own) (chk_ok h1).2
      rw [h1] at a
      refine go (by decide) ?_
      rw [run59 _ _ _ (by simp)]
      simp (maxSteps := 1000000) (disch := first | omega | decide | assumption | simp [scal]) [lenA_sl lk_22, a, h2', k, fm_ptr, fm_ren, ptrV_map, renV_map]
  · have e : cntE l n = chkS l n := by unfold cntE; rw [if_neg h1]
    rw [e, if_neg h1]
    refine go (by decide) ?_
    rw [run59 _ _ _ (by simp)]
    simp (maxSteps := 1000000) (disch := first | omega | decide | assumption | simp [scal]) [lenA_sl lk_22, a, h1]
/-- the same at a place where only the month lies .. -/
theorem k59 (hc : SpC cs off n l) (hn : n ≤ 60) : callH LL 59 [sl 0 off n c] [.cells cs 2 true own] = if cntE l n = 0 then some ⟨.tuple #[pp 1, iv 0], .cells cs 2 true own :: NW off n c 0 1 [(2 ^ n - 1, 1)] [(0, 1)], [0], []⟩ else some ⟨.tuple #[.pointer none, iv (cntE l n)], [.cells cs 2 true own], [0], []⟩ := by
  have h := r59 off n c (own := own) hc hn
  by_cases h1 : cntE l n = 0
  · rw [if_pos h1] at h ⊢
    exact callH_lit (by intro _; first | trivial | rfl) (roots := [0]) rfl (ρ := [0]) (by simp only [reachP_cons, nblt, nbeq, mem_nil, mem_cons, memC_t, memC_f, reachQ_f, reachQ_t, Bool.or_false, Bool.or_true, Bool.false_or, Bool.true_or, decide_false, decide_true, Nat.not_lt_zero, rootsB, List.getElem?_cons_succ, List.getElem?_cons_zero, ptrB_non, ptrB_flat, ptrL_eq, ptrL, ptrV_bool, ptrV_int, ptrV_string, ptrV_nilFunc, ptrV_nilIface, ptrV_nilPtr, ptrV_nilSl, ptrV_iface, ptrV_agg, ptrV_tuple, ptrV_func, ptrV_ptr, ptrV_sl, dep, ptrFn, List.nil_append, List.cons_append, List.append_nil, reach_nil, reachN, Nat.reduceEqDiff, Nat.reduceAdd, Nat.reduceSub, reduceCtorEq, Nat.reduceLT, Nat.lt_irrefl, List.flatMap_cons, List.flatMap_nil, optAll, renL_eq, renL, renB_flat, renB_non, renV_bool, renV_int, renV_string, renV_nilFunc, renV_nilIface, renV_nilPtr, renV_ptr, renV_nilSl, renV_sl, renV_iface, renV_agg, renV_tuple, renV_func, renFn, idx_nil, idx_cons, idxC_t, idxC_f, Option.map_some, Option.map_none]) rfl rfl h (by simp [mergeB, renV_ptr, renV_tuple, dep, optAll, renB_non, renL, renV_sl, renV_map, renV_func, renV_int, renFn, fm_ren, renL_eq]) (by simp)
  · rw [if_neg h1] at h ⊢
    exact callH_lit (by intro _; first | trivial | rfl) (roots := [0]) rfl (ρ := [0]) (by simp only [reachP_cons, nblt, nbeq, mem_nil, mem_cons, memC_t, memC_f, reachQ_f, reachQ_t, Bool.or_false, Bool.or_true, Bool.false_or, Bool.true_or, decide_false, decide_true, Nat.not_lt_zero, rootsB, List.getElem?_cons_succ, List.getElem?_cons_zero, ptrB_non, ptrB_flat, ptrL_eq, ptrL, ptrV_bool, ptrV_int, ptrV_string, ptrV_nilFunc, ptrV_nilIface, ptrV_nilPtr, ptrV_nilSl, ptrV_iface, ptrV_agg, ptrV_tuple, ptrV_func, ptrV_ptr, ptrV_sl, dep, ptrFn, List.nil_append, List.cons_append, List.append_nil, reach_nil, reachN, Nat.reduceEqDiff, Nat.reduceAdd, Nat.reduceSub, reduceCtorEq, Nat.reduceLT, Nat.lt_irrefl, List.flatMap_cons, List.flatMap_nil, optAll, renL_eq, renL, renB_flat, renB_non, renV_bool, renV_int, renV_string, renV_nilFunc, renV_nilIface, renV_nilPtr, renV_ptr, renV_nilSl, renV_sl, renV_iface, renV_agg, renV_tuple, renV_func, renFn, idx_nil, idx_cons, idxC_t, idxC_f, Option.map_some, Option.map_none]) rfl rfl h (by simp [mergeB, renV_nilPtr, renV_tuple, dep, optAll, renL, renV_int, renL_eq]) (by simp)
theorem rchA (es eb : List (Nat × Nat)) (rest : List Blk) : reach (.cells cs 2 true own :: (NW off n c 0 1 es eb ++ rest)) 0 reachN [2] [] = [2, 3, 4, 0, 5, 6, 1, 7, 8] := by
  simp only [reachP_cons, nblt, nbeq, mem_nil, mem_cons, memC_t, memC_f, reachQ_f, reachQ_t, Bool.or_false, Bool.or_true, Bool.false_or, Bool.true_or, decide_false, decide_true, Nat.not_lt_zero, rootsB, List.getElem?_cons_succ, List.getElem?_cons_zero, ptrB_non, ptrB_flat, ptrL_eq, ptrL, ptrV_bool, ptrV_int, ptrV_string, ptrV_nilFunc, ptrV_nilIface, ptrV_nilPtr, ptrV_nilSl, ptrV_iface, ptrV_agg, ptrV_tuple, ptrV_func, ptrV_ptr, ptrV_sl, dep, ptrFn, List.nil_append, List.cons_append, List.append_nil, reach_nil, reachN, Nat.reduceEqDiff, Nat.reduceAdd, Nat.reduceSub, reduceCtorEq, Nat.reduceLT, Nat.lt_irrefl, List.flatMap_cons, List.flatMap_nil, optAll, renL_eq, renL, renB_flat, renB_non, renV_bool, renV_int, renV_string, renV_nilFunc, renV_nilIface, renV_nilPtr, renV_ptr, renV_nilSl, renV_sl, renV_iface, renV_agg, renV_tuple, renV_func, renFn, idx_nil, idx_cons, idxC_t, idxC_f, Option.map_some, Option.map_none, fm_ptr, ptrV_map]
theorem pickA (es eb : List (Nat × Nat)) (rest : List Blk) : optAll (pickB (.cells cs 2 true own :: (NW off n c 0 1 es eb ++ rest)) (idx [2, 3, 4, 0, 5, 6, 1, 7, 8])) [2, 3, 4, 0, 5, 6, 1, 7, 8] = some (HR0 off n c cs own es eb) := by
  simp (maxSteps := 1000000) (disch := first | omega | decide | assumption | simp [scal]) [pickB, renV_map, fm_ren]
/-- the rests' table is asked -/
theorem askA (hc : SpC cs off n l) (hn : n ≤ 12) (es eb : List (Nat × Nat)) (rest : List Blk) (M : Nat) (hi : InvR (nxB l n) n es) (hM : M < 2 ^ n) : ∃ es' wr, InvR (nxB l n) n es' ∧ ((wr = [] ∧ es' = es) ∨ wr = [3]) ∧
    callH LL 60 [pp 2, wv M] (.cells cs 2 true own :: (NW off n c 0 1 es eb ++ rest)) = some ⟨iv (cR (nxB l n) n (cntU n M) M : Nat), .cells cs 2 true own :: (NW off n c 0 1 es' eb ++ rest), [2, 3, 4, 0, 5, 6, 1, 7, 8], wr⟩ := by
  obtain ⟨es', ws, i1, i2, i3⟩ := get_ok off n c (own := own) hc hn eb (cntU n M) es M hi hM rfl
  rcases i2 with ⟨rfl, rfl⟩ | rfl
  · exact ⟨es', [], i1, .inl ⟨rfl, rfl⟩, callH_lit (by intro _; first | trivial | rfl) rfl (rchA ..) rfl (pickA ..) i3 (by simp [mergeB, renV_int, dep, optAll]) (by simp)⟩
  · exact ⟨es', [3], i1, .inr rfl, callH_lit (by intro _; first | trivial | rfl) rfl (rchA ..) rfl (pickA ..) i3 (by simp [mergeB, renV_int, dep, optAll, fm_ren]) (by simp)⟩
end
section
variable (b off n c : Nat) {cs : List Value} {own : Bool} {l : Nat → Int × Int} {h : List Blk} (hb : h[b]? = some (.cells cs 2 true own)) (hc : SpC cs off n l)
include hb hc
theorem k23 (hn : n ≤ 60) : callH LL 23 [sl b off n c] h = some ⟨.tuple #[iv (cntV l n : Nat), iv (cntE l n)], h, [b], []⟩ := by
  refine callH_1 rfl hb noIdB_flat (args' := [sl 0 off n c]) (by simp [renV, dep, optAll, idx, nbeq]) (go (by decide) ?_) (fun _ => rfl)
  have a := k59 off n c (own := own) hc hn
  rw [run23 _ _ _ (by simp)]
  unfold cntV
  by_cases h1 : cntE l n = 0
  · rw [if_pos h1] at a
    obtain ⟨h2, h3, h4⟩ := cntE_ok h1
    obtain ⟨es', wr, i1, i2, i3⟩ := askA off n c (own := own) hc h3 [(2 ^ n - 1, 1)] [(0, 1)] [] 0 inv0 (Nat.two_pow_pos n)
    rw [cntU_zero] at i3
    rw [if_pos h1, h1]
    generalize cR (nxB l n) n n 0 = Z at *
    simp only [Int.natCast_zero, List.append_nil] at i3
    rw [show wv 0 = .int .u32 0 from rfl] at i3
    rcases i2 with ⟨rfl, rfl⟩ | rfl
    · simp (maxSteps := 1000000) (disch := first | omega | decide | assumption | simp [scal]) [o_fieldAddr fa_90_1 (by decide), loadA_eq ia_88, a, i3, fm_ptr, fm_ren, ptrV_map, renV_map]
    · simp (maxSteps := 1000000) (disch := first | omega | decide | assumption | simp [scal]) [o_fieldAddr fa_90_1 (by decide), loadA_eq ia_88, a, i3, fm_ptr, fm_ren, ptrV_map, renV_map]
  · rw [if_neg h1] at a
    rw [if_neg h1]
    simp (maxSteps := 1000000) (disch := first | omega | decide | assumption | simp [scal]) [o_fieldAddr fa_90_1 (by decide), loadA_eq ia_88, a, h1]
end
end Go.Proofs.Ytfccmddkblbeoaa.rk
namespace Go.Proofs.Ytfccmddkblbeoaa.rk
open Go.GE
set_option linter.unusedVariables false
set_option linter.unusedSimpArgs false
set_option linter.unusedSectionVars false
set_option maxRecDepth 100000
set_option maxHeartbeats 4000000
theorem wrap_nn {n : Nat} (h : n < 2 ^ 63) : IntKind.i64.wrap (n : Int) = n := wrap_i64_id (by omega) (by omega)
end Go.Proofs.Ytfccmddkblbeoaa.rk
namespace Go.Proofs.Ytfccmddkblbeoaa.rk
open Go.GE
set_option linter.unusedVariables false
set_option linter.unusedSimpArgs false
set_option linter.unusedSectionVars false
set_option maxRecDepth 100000
set_option maxHeartbeats 4000000
theorem cS_add {f : Nat → Nat} : ∀ k i a, cS f k i a = a + cS f k i 0 := by
  intro k
  induction k with
  | zero => intro i a; simp [cS]
  | succ k ih => intro i a; simp only [cS]; rw [ih (i + 1) (a + f i), ih (i + 1) (0 + f i)]; omega
theorem cS_congr {f g : Nat → Nat} : ∀ k i a, (∀ j, i ≤ j → j < i + k → f j = g j) → cS f k i a = cS g k i a := by
  intro k
  induction k with
  | zero => intro i a _; rfl
  | succ k ih =>
    intro i a h
    simp only [cS]
    rw [h i (by omega) (by omega)]
    exact ih _ _ fun j h1 h2 => h j (by omega) (by omega)
end Go.Proofs.Ytfccmddkblbeoaa.rk
namespace Go.Proofs.Ytfccmddkblbeoaa.rk
open Go.GE
set_option linter.unusedVariables false
set_option linter.unusedSimpArgs false
set_option linter.unusedSectionVars false
set_option maxRecDepth 100000
set_option maxHeartbeats 4000000
/-- a set without a day -/
def adn (M j : Nat) : Nat := M &&& (2 ^ 32 - (2 ^ j + 1))
def cB (nx : Nat → Nat → Bool) (n : Nat) : Nat → Nat → Nat
  | 0, _ => 1
  | k + 1, M => cS (fun i => cond (M.testBit i && nx (adn M i) i) (cB nx n k (adn M i)) 0) n 0 0
def gB (nx : Nat → Nat → Bool) (n M : Nat) : Nat := cB nx n (n - cntU n M) M
def InvB (nx : Nat → Nat → Bool) (n : Nat) (eb : List (Nat × Nat)) : Prop := (∀ p, p ∈ eb → p.1 < 2 ^ n ∧ p.2 = gB nx n p.1) ∧ ∃ p, p ∈ eb ∧ p.1 = 0
theorem InvB.upd {nx : Nat → Nat → Bool} {n : Nat} {eb : List (Nat × Nat)} (h : InvB nx n eb) {M : Nat} (hM : M < 2 ^ n) : InvB nx n (updE eb M (gB nx n M)) := by
  refine ⟨fun p hp => ?_, updE_key h.2⟩
  rcases updE_mem hp with hp | rfl
  · exact h.1 p hp
  · exact ⟨hM, rfl⟩
end Go.Proofs.Ytfccmddkblbeoaa.rk
namespace Go.Proofs.Ytfccmddkblbeoaa.rk
open Go.GE
set_option linter.unusedVariables false
set_option linter.unusedSimpArgs false
set_option linter.unusedSectionVars false
set_option maxRecDepth 100000
set_option maxHeartbeats 4000000
def apS (F : Nat → List (List Nat)) : Nat → Nat → List (List Nat)
  | 0, _ => []
  | q + 1, i => F i ++ apS F q (i + 1)
def ords (nx : Nat → Nat → Bool) (n : Nat) : Nat → Nat → List (List Nat)
  | 0, _ => [[]]
  | k + 1, M => apS (fun i => cond (nx M i) ((ords nx n k (M ||| 2 ^ i)).map (i :: ·)) []) n 0
theorem apS_len {F : Nat → List (List Nat)} : ∀ q i, (apS F q i).length = cS (fun i => (F i).length) q i 0 := by
  intro q
  induction q with
  | zero => intro i; rfl
  | succ q ih =>
    intro i
    simp only [apS, cS, List.length_append, ih]
    rw [cS_add q (i + 1) (0 + (F i).length)]
    omega
theorem ords_len {nx : Nat → Nat → Bool} {n : Nat} : ∀ k M, (ords nx n k M).length = cR nx n k M := by
  intro k
  induction k with
  | zero => intro M; rfl
  | succ k ih =>
    intro M
    simp only [ords, apS_len, cR]
    refine cS_congr n 0 0 fun i _ _ => ?_
    cases nx M i
    · rfl
    · simp [ih]
theorem apS_mem {F : Nat → List (List Nat)} {O : List Nat} : ∀ q i, O ∈ apS F q i ↔ ∃ j, i ≤ j ∧ j < i + q ∧ O ∈ F j := by
  intro q
  induction q with
  | zero => intro i; simp [apS]; intro j h1 h2; omega
  | succ q ih =>
    intro i
    simp only [apS, List.mem_append, ih]
    constructor
    · rintro (h | ⟨j, h1, h2, h3⟩)
      · exact ⟨i, by omega, by omega, h⟩
      · exact ⟨j, by omega, by omega, h3⟩
    · rintro ⟨j, h1, h2, h3⟩
      by_cases e : j = i
      · subst e; exact .inl h3
      · exact .inr ⟨j, by omega, by omega, h3⟩
/-- a way on from a set -/
def pth (nx : Nat → Nat → Bool) (n : Nat) : Nat → List Nat → Prop
  | _, [] => True
  | M, i :: O => i < n ∧ nx M i = true ∧ pth nx n (M ||| 2 ^ i) O
theorem ords_mem {nx : Nat → Nat → Bool} {n : Nat} : ∀ k M O, O ∈ ords nx n k M ↔ O.length = k ∧ pth nx n M O := by
  intro k
  induction k with
  | zero =>
    intro M O
    simp only [ords, List.mem_singleton, List.length_eq_zero_iff]
    constructor
    · rintro rfl; exact ⟨rfl, trivial⟩
    · exact fun h => h.1
  | succ k ih =>
    intro M O
    simp only [ords, apS_mem]
    constructor
    · rintro ⟨j, _, h2, h3⟩
      cases hx : nx M j
      · rw [hx] at h3; cases h3
      · rw [hx] at h3
        simp only [cond_true, List.mem_map] at h3
        obtain ⟨P, h4, rfl⟩ := h3
        obtain ⟨h5, h6⟩ := (ih _ _).1 h4
        exact ⟨by simp [h5], by omega, hx, h6⟩
    · rintro ⟨h1, h2⟩
      cases O with
      | nil => cases h1
      | cons i P =>
        obtain ⟨h3, h4, h5⟩ := h2
        refine ⟨i, by omega, by omega, ?_⟩
        rw [h4]
        simp only [cond_true, List.mem_map]
        exact ⟨P, (ih _ _).2 ⟨by simpa using h1, h5⟩, rfl⟩
theorem ords_nodup {nx : Nat → Nat → Bool} {n : Nat} : ∀ k M, (ords nx n k M).Nodup := by
  intro k
  induction k with
  | zero => intro M; simp [ords]
  | succ k ih =>
    intro M
    simp only [ords]
    have key : ∀ q i, (apS (fun i => cond (nx M i) ((ords nx n k (M ||| 2 ^ i)).map (i :: ·)) []) q i).Nodup := by
      intro q
      induction q with
      | zero => intro i; simp [apS]
      | succ q iq =>
        intro i
        simp only [apS]
        rw [List.nodup_append]
        refine ⟨?_, iq (i + 1), ?_⟩
        · cases nx M i
          · simp
          · simp only [cond_true]
            exact (ih _).map (f := (i :: ·)) (by intro a b hab; simpa using hab) |> fun h => h
        · intro a ha b hb hab
          subst hab
          obtain ⟨j, h1, _, h2⟩ := (apS_mem _ _).1 hb
          cases hx : nx M i
          · rw [hx] at ha; cases ha
          · rw [hx] at ha
            simp only [cond_true, List.mem_map] at ha
            obtain ⟨P, _, rfl⟩ := ha
            cases hy : nx M j
            · rw [hy] at h2; cases h2
            · rw [hy] at h2
              simp only [cond_true, List.mem_map] at h2
              obtain ⟨R, _, h3⟩ := h2
              injection h3 with h4
              omega
    exact key n 0
/-- what a way on is: days that are left, each once, none surely quieter than one before it, nor than it one that is left over -/
theorem pth_iff {l : Nat → Int × Int} {n : Nat} : ∀ (O : List Nat) (M : Nat), pth (nxB l n) n M O ↔
    (∀ x, x ∈ O → x < n ∧ M.testBit x = false) ∧ O.Nodup ∧ O.Pairwise (fun a b => quiet l b a = false) ∧ (∀ x, x ∈ O → ∀ t, t < n → M.testBit t = false → t ∉ O → quiet l t x = false) ∧ ∀ x, x ∈ O → quiet l x x = false := by
  intro O
  induction O with
  | nil => intro M; simp [pth]
  | cons i O ih =>
    intro M
    have hnx : nxB l n M i = true ↔ M.testBit i = false ∧ ∀ t, t < n → M.testBit t = false → quiet l t i = false := by
      unfold nxB
      rw [Bool.and_eq_true, Bool.not_eq_true', nxK_iff]
      constructor
      · rintro ⟨h1, h2⟩
        refine ⟨h1, fun t ht hb => ?_⟩
        rcases h2 t (by omega) (by omega) with h | h
        · rw [hb] at h; cases h
        · exact h
      · rintro ⟨h1, h2⟩
        refine ⟨h1, fun t _ ht => ?_⟩
        cases hb : M.testBit t
        · exact .inr (h2 t (by omega) hb)
        · exact .inl rfl
    have hor : ∀ t, (M ||| 2 ^ i).testBit t = false ↔ M.testBit t = false ∧ i ≠ t := by
      intro t; rw [bit_or, Bool.or_eq_false_iff, decide_eq_false_iff_not]
    simp only [pth, hnx, ih, hor]
    constructor
    · rintro ⟨h1, ⟨h2, h3⟩, h4, h5, h6, h7, h8⟩
      refine ⟨fun x hx => ?_, List.nodup_cons.2 ⟨fun hm => (h4 i hm).2.2 rfl, h5⟩, List.pairwise_cons.2 ⟨fun b hb => h3 b (h4 b hb).1 (h4 b hb).2.1, h6⟩, fun x hx t ht hb hn => ?_, fun x hx => ?_⟩
      · rcases List.mem_cons.1 hx with rfl | hx
        · exact ⟨h1, h2⟩
        · exact ⟨(h4 x hx).1, (h4 x hx).2.1⟩
      · rcases List.mem_cons.1 hx with rfl | hx
        · exact h3 t ht hb
        · exact h7 x hx t ht ⟨hb, fun e => hn (by simp [e])⟩ fun hm => hn (by simp [hm])
      · rcases List.mem_cons.1 hx with rfl | hx
        · exact h3 x h1 h2
        · exact h8 x hx
    · rintro ⟨h1, h2, h3, h4, h5⟩
      obtain ⟨g1, g2⟩ := h1 i (by simp)
      obtain ⟨g3, g4⟩ := List.nodup_cons.1 h2
      obtain ⟨g5, g6⟩ := List.pairwise_cons.1 h3
      refine ⟨g1, ⟨g2, fun t ht hb => ?_⟩, fun x hx => ⟨(h1 x (by simp [hx])).1, (h1 x (by simp [hx])).2, fun e => g3 (by rw [e]; exact hx)⟩, g4, g6, fun x hx t ht hb hn => ?_, fun x hx => h5 x (by simp [hx])⟩
      · by_cases e : t = i
        · subst e; exact h5 t (by simp)
        · by_cases hm : t ∈ O
          · exact g5 t hm
          · exact h4 i (by simp) t ht hb (by simp [e, hm])
      · exact h4 x (by simp [hx]) t ht hb.1 (by simp only [List.mem_cons, not_or]; exact ⟨fun e => hb.2 e.symm, hn⟩)
theorem nd_len : ∀ {l1 l2 : List Nat}, l1.Nodup → (∀ x, x ∈ l1 → x ∈ l2) → l1.length ≤ l2.length := by
  intro l1
  induction l1 with
  | nil => intro l2 _ _; simp
  | cons a l1 ih =>
    intro l2 h hs
    obtain ⟨h1, h2⟩ := List.nodup_cons.1 h
    have ha := hs a (by simp)
    have := ih (l2 := l2.erase a) h2 fun x hx => (List.mem_erase_of_ne (fun e => h1 (by rw [← e]; exact hx))).2 (hs x (by simp [hx]))
    have hl := List.length_erase_of_mem ha
    have hp := List.length_pos_of_mem ha
    simp only [List.length_cons]
    omega
theorem ndL_len : ∀ {l1 l2 : List (List Nat)}, l1.Nodup → (∀ x, x ∈ l1 → x ∈ l2) → l1.length ≤ l2.length := by
  intro l1
  induction l1 with
  | nil => intro l2 _ _; simp
  | cons a l1 ih =>
    intro l2 h hs
    obtain ⟨h1, h2⟩ := List.nodup_cons.1 h
    have ha := hs a (by simp)
    have := ih (l2 := l2.erase a) h2 fun x hx => (List.mem_erase_of_ne (fun e => h1 (by rw [← e]; exact hx))).2 (hs x (by simp [hx]))
    have hl := List.length_erase_of_mem ha
    have hp := List.length_pos_of_mem ha
    simp only [List.length_cons]
    omega
theorem full_mem {O : List Nat} {n : Nat} (h1 : O.Nodup) (h2 : ∀ x, x ∈ O → x < n) (h3 : O.length = n) {t : Nat} (ht : t < n) : t ∈ O := by
  refine Classical.byContradiction fun hn => ?_
  have hm : t ∈ List.range n := List.mem_range.2 ht
  have := nd_len (l2 := (List.range n).erase t) h1 fun x hx => (List.mem_erase_of_ne (fun e => hn (by rw [← e]; exact hx))).2 (List.mem_range.2 (h2 x hx))
  have hl := List.length_erase_of_mem hm
  rw [List.length_range] at hl
  omega
/-- a full order -/
theorem full_iff {l : Nat → Int × Int} {n : Nat} (hl : ∀ i, i < n → quiet l i i = false) {O : List Nat} : O ∈ ords (nxB l n) n n 0 ↔ O.length = n ∧ (∀ x, x ∈ O → x < n) ∧ O.Nodup ∧ O.Pairwise (fun a b => quiet l b a = false) := by
  rw [ords_mem, pth_iff]
  constructor
  · rintro ⟨h1, h2, h3, h4, _⟩; exact ⟨h1, fun x hx => (h2 x hx).1, h3, h4⟩
  · rintro ⟨h1, h2, h3, h4⟩
    exact ⟨h1, fun x hx => ⟨h2 x hx, Nat.zero_testBit x⟩, h3, h4, fun x hx t ht _ hn => absurd (full_mem h3 h2 h1 ht) hn, fun x hx => hl x (h2 x hx)⟩
theorem rev_len {l l' : Nat → Int × Int} {n : Nat} (hl : ∀ i, i < n → quiet l i i = false) (hq : ∀ i k, i < n → k < n → quiet l' i k = quiet l k i) : cR (nxB l n) n n 0 = cR (nxB l' n) n n 0 := by
  have hl' : ∀ i, i < n → quiet l' i i = false := fun i hi => by rw [hq i i hi hi]; exact hl i hi
  have key : ∀ {l l' : Nat → Int × Int}, (∀ i, i < n → quiet l i i = false) → (∀ i, i < n → quiet l' i i = false) → (∀ i k, i < n → k < n → quiet l' i k = quiet l k i) → (ords (nxB l n) n n 0).length ≤ (ords (nxB l' n) n n 0).length := by
    intro l l' hl hl' hq
    have := ndL_len (l1 := (ords (nxB l n) n n 0).map List.reverse) (l2 := ords (nxB l' n) n n 0) ((ords_nodup n 0).map List.reverse (by intro a b hab; simpa using hab)) fun x hx => by
      obtain ⟨O, hO, rfl⟩ := List.mem_map.1 hx
      obtain ⟨h1, h2, h3, h4⟩ := (full_iff hl).1 hO
      refine (full_iff hl').2 ⟨by simp [h1], fun x hx => h2 x (by simpa using hx), (List.pairwise_reverse.2 (h3.imp fun h => h.symm)), List.pairwise_reverse.2 ?_⟩
      refine h4.imp_of_mem fun {a b} ha hb hab => ?_
      rw [hq a b (h2 a ha) (h2 b hb)]; exact hab
    simpa using this
  rw [← ords_len, ← ords_len]
  exact Nat.le_antisymm (key hl hl' hq) (key hl' hl fun i k hi hk => (hq k i hk hi).symm)
theorem cR_mono {nx nx' : Nat → Nat → Bool} {n : Nat} (h : ∀ M i, i < n → nx M i = true → nx' M i = true) : ∀ k M, cR nx n k M ≤ cR nx' n k M := by
  have cmono : ∀ {f g : Nat → Nat} (k i : Nat), (∀ j, i ≤ j → j < i + k → f j ≤ g j) → cS f k i 0 ≤ cS g k i 0 := by
    intro f g k
    induction k with
    | zero => intro i _; simp [cS]
    | succ k ih =>
      intro i hfg
      simp only [cS]
      rw [cS_add k (i + 1) (0 + f i), cS_add k (i + 1) (0 + g i)]
      have h1 := hfg i (by omega) (by omega)
      have h2 := ih (i + 1) fun j a b => hfg j (by omega) (by omega)
      omega
  intro k
  induction k with
  | zero => intro M; simp [cR]
  | succ k ih =>
    intro M
    simp only [cR]
    refine cmono n 0 fun j _ hj => ?_
    cases hx : nx M j
    · simp
    · rw [h M j (by omega) hx]
      exact ih _
theorem nx_mono {l l' : Nat → Int × Int} {n : Nat} (hq : ∀ i k, i < n → k < n → quiet l' i k = true → quiet l i k = true) (M i : Nat) (hi : i < n) (h : nxB l n M i = true) : nxB l' n M i = true := by
  unfold nxB at h ⊢
  rw [Bool.and_eq_true, nxK_iff] at h ⊢
  refine ⟨h.1, fun t h1 h2 => ?_⟩
  rcases h.2 t h1 h2 with g | g
  · exact .inl g
  · refine .inr ?_
    cases hx : quiet l' t i
    · rfl
    · rw [hq t i (by omega) hi hx] at g; cases g
end Go.Proofs.Ytfccmddkblbeoaa.rk
namespace Go.Proofs.Ytfccmddkblbeoaa.rk
open Go.GE
set_option linter.unusedVariables false
set_option linter.unusedSimpArgs false
set_option linter.unusedSectionVars false
set_option maxRecDepth 100000
set_option maxHeartbeats 4000000
attribute [local simp] runOps_nil runOps_cons runOpsF_nil runOpsF_cons fstS_some fstF_some opStep_eq want_none oStep_true oStep_false fin_pure fin_read fin_alloc fin_write storeB wrN cellV addWr o_move o_assign o_pick o_alloc o_box o_load o_store o_nilCheck o_bin o_un o_extract o_callV o_callB o_callI callV_f callV_y callV_fc o_makeFunc partsA Instr.fill builtin_len builtin_max2 bin_add bin_sub bin_mul bin_quo bin_rem bin_lss bin_leq bin_gtr bin_geq bin_eql bin_neq un_neg un_not bin_shr bin_shl wrap_u64_id opd opds optAll putO nbeq nblt constOk isC ops sub cl cr co bodyOf thenS_normal thenS_ret thenS_exit thenS_goto afterN_normal afterN_ret afterN_exit afterN_goto condS_true condS_false blockS_normal blockS_ret blockS_exit blockS_goto headS normS normK_eq fixS_nil fixS_cons fix1 fixV emptyB keepO_nil keepO_cons roundC_normal roundC_exit roundC_ret roundC_goto sweep_eq sweepD rnm pickR pickW rootsB ptrT renT ptrFn renFn ptrB_flat ptrB_non renB_flat renB_non plainS_some drawS_some fpsOk disj unord range' dropTo enumT undef wrap_i64_id Value.cells mkCells ptrTo scal cellsAt rdN endS_ret resultsA Option.bind_some tupV finish reachN dep ptrL_eq ptrL renL_eq renL ptrV_bool ptrV_int ptrV_string ptrV_nilFunc ptrV_nilIface ptrV_nilPtr ptrV_ptr ptrV_nilSl ptrV_sl ptrV_iface ptrV_agg ptrV_tuple ptrV_func renV_bool renV_int renV_string renV_nilFunc renV_nilIface renV_nilPtr renV_ptr renV_nilSl renV_sl renV_iface renV_agg renV_tuple renV_func gotoS_goto gotoS_normal gotoS_exit gotoS_ret skip_seq sliceE bnd bndHi intOf optOpd keepT_nil keepT_cons keepC_t keepC_f lk_nil lk_cons lkC_t lkC_f has_nil has_cons hasC_t hasC_f rep_nil rep_cons repC_t repC_f put_eq putC_t putC_f mem_nil mem_cons memC_t memC_f idx_nil idx_cons idxC_t idxC_f reach_nil reachP_cons reachQ_t reachQ_f ptrB_dead renB_dead ins_eq
attribute [local simp] n10_1s n10_3s n10_5s n10_7s n10_10s n10_14s n10_17s n10_18s n10_16s n10_22s n10_24s n10_26s n10_27s n10_25s n10_23s n10_21s n10_20s n10_28s n10_19s n10_15s n10_13s n10_12s n10_12g n10_11s n10_9s n10_30s n10_33s n10_37s n10_40s n10_41s n10_39s n10_45s n10_46s n10_44s n10_43s n10_47s n10_42s n10_38s n10_36s n10_35s n10_35g n10_34s n10_32s n10_49s n10_51s n10_53s n10_55s n10_57s n10_60s n10_63s n10_64s n10_62s n10_65s n10_61s n10_59s n10_67s n10_68s n10_66s n10_58s n10_56s n10_54s n10_52s n10_50s n10_48s n10_31s n10_29s n10_8s n10_6s n10_4s n10_2s n10_0s Try.f10
def wdD (A : List (Int × Int)) (w : Nat → Nat) (i : Nat) : Int × Int := (if 0 < (spAt A i).1 - ((w i % 3 : Nat) : Int) then (spAt A i).1 - ((w i % 3 : Nat) : Int) else 0, (spAt A i).2 + ((w i / 64 : Nat) : Int))
def tnD (A : List (Int × Int)) (i : Nat) : Int × Int := (100000 - (spAt A i).2, 100000 - (spAt A i).1)
def mvD (A : List (Int × Int)) (L : Nat) (i : Nat) : Int × Int := ((spAt A i).1 + (L : Int), (spAt A i).2 + (L : Int))
def mpL (f : Nat → Int × Int) (n : Nat) : List (Int × Int) := (List.range n).map f
theorem mpL_len {f : Nat → Int × Int} {n : Nat} : (mpL f n).length = n := by simp [mpL]
theorem mpL_at {f : Nat → Int × Int} {n i : Nat} (h : i < n) : spAt (mpL f n) i = f i := by simp [spAt, mpL, h]
theorem mpL_succ {f : Nat → Int × Int} {n : Nat} : (mpL f (n + 1)).flatMap spG = (mpL f n).flatMap spG ++ spG (f n) := by
  simp [mpL, List.range_succ]
theorem mpL_cells {f : Nat → Int × Int} {n : Nat} : ((mpL f n).flatMap spG).length = n * 2 := by rw [flat_len (k := 2) (fun _ => rfl), mpL_len]
def bkL (O : List Nat) (n i : Nat) : List Nat := (List.range i).map fun j => O.getD (n - 1 - j) 0
theorem bkL_len {O : List Nat} {n i : Nat} : (bkL O n i).length = i := by simp [bkL]
theorem bkL_succ {O : List Nat} {n i : Nat} : bkL O n (i + 1) = bkL O n i ++ [O.getD (n - 1 - i) 0] := by simp [bkL, List.range_succ]
theorem bkL_at {O : List Nat} {n i : Nat} (h : i < n) : (bkL O n n).getD i 0 = O.getD (n - 1 - i) 0 := by simp [bkL, h]
theorem bkL_rev {O : List Nat} {n : Nat} (h : O.length = n) : bkL O n n = O.reverse := by
  apply List.ext_getElem
  · simp [bkL, h]
  · intro i h1 h2
    have hi : i < n := by simpa [bkL] using h1
    simp only [bkL, List.getElem_map, List.getElem_range, List.getElem_reverse]
    rw [List.getD_eq_getElem?_getD, List.getElem?_eq_getElem (by omega)]
    simp [h]
section
variable (K0 K1 : Blk) {A : List (Int × Int)} {O : List Nat} {n : Nat} (wcs : List Value) (w : Nat → Nat) (L : Nat)
theorem l10a (hw : ∀ i, i < 5 → wcs[i]? = some (uv (w i)) ∧ w i < 256) (hL : L < 256) (hA : A.length = n) (n5 : n ≤ 5) (hb : ∀ i, i < n → 0 ≤ (spAt A i).1 ∧ (spAt A i).1 ≤ (spAt A i).2 ∧ (spAt A i).2 < 19) : ∀ (q i : Nat), i + q = n →
    lpB Try.prog LL ⟨10, 180, 2, none⟩ n10_12 n10_13 ⟨[(3, uv L), (6, pp 2), (9, sl 3 0 n n), (10, sl 4 0 n n), (11, sl 5 0 i i), (12, sl 6 0 i i), (13, sl 7 0 i i), (33, sl 3 0 n n), (34, iv n), (35, iv i)],
        [K0, K1, .cells wcs 1 true true, spB A, nB O, spB (mpL (wdD A w) i), spB (mpL (tnD A) i), spB (mpL (mvD A L) i)], []⟩ =
      some (.exit 0, ⟨[(9, sl 2 0 n n), (10, sl 3 0 n n), (11, sl 4 0 n n), (12, sl 5 0 n n), (13, sl 6 0 n n)], [K0, K1, spB A, nB O, spB (mpL (wdD A w) n), spB (mpL (tnD A) n), spB (mpL (mvD A L) n)], []⟩) := by
  intro q
  induction q with
  | zero =>
    intro i hi
    obtain rfl : i = n := by omega
    simp only [spB, nB]
    generalize nm O = M at *
    generalize A.flatMap spG = N at *
    generalize (mpL (wdD A w) i).flatMap spG = X at *
    generalize (mpL (tnD A) i).flatMap spG = Y at *
    generalize (mpL (mvD A L) i).flatMap spG = Z at *
    rw [lpB_eq]
    simp (maxSteps := 1000000) (disch := first | omega | decide | assumption | simp [scal]) [lenA_sl lk_22, o_indexAddrS es_22, loadA_eq ia_55, za_55, sz_55, o_fieldAddr fa_55_0 (by decide), loadA_eq ia_3, o_indexAddrA ea_63, loadA_eq ia_5, o_convI cv_5_3, o_fieldAddr fa_55_1 (by decide), o_build za_55 pl_55, ze_22, o_buildSlice es_22 ze_22 (by decide) ba_22_1, ap_22, builtin_append ni_22, lenA_sl lk_24, o_indexAddrS es_24, ze_24, o_buildSlice es_24 ze_24 (by decide) ba_24_1, ap_24, builtin_append ni_24, want_some q10_60g2, want_some q10_60g6, want_some q10_60g10, want_some q10_60g14, want_some q10_60g19, want_some q10_60g24, want_some q10_67g2, want_some q10_67g8, want_some q10_67g15, want_some q10_67g22]
  | succ q ih =>
    intro i hi
    have e0 : i < n := by omega
    have e1 : (i : Int) < n := by omega
    have e5 : i < 5 := by omega
    have e5' : (i : Int) < 5 := by omega
    have this := ih (i + 1) (by omega)
    obtain ⟨q1, q2⟩ := spAt_C A i (by rw [hA]; exact e0)
    rw [Nat.zero_add] at q1 q2
    obtain ⟨b1, b2, b3⟩ := hb i e0
    obtain ⟨w1, w2⟩ := hw i e5
    have lx := mpL_cells (f := wdD A w) (n := i)
    have ly := mpL_cells (f := tnD A) (n := i)
    have lz := mpL_cells (f := mvD A L) (n := i)
    have c1 := fun hp b c rd => app_list (h := hp) (b := b) (c := c) (k := 2) (by' := 16) (l := i) (cs := (mpL (wdD A w) i).flatMap spG) (new := spG (wdD A w i)) (rd := rd) (by rw [lx]) (by omega) (by omega) rfl
    have c2 := fun hp b c rd => app_list (h := hp) (b := b) (c := c) (k := 2) (by' := 16) (l := i) (cs := (mpL (tnD A) i).flatMap spG) (new := spG (tnD A i)) (rd := rd) (by rw [ly]) (by omega) (by omega) rfl
    have c3 := fun hp b c rd => app_list (h := hp) (b := b) (c := c) (k := 2) (by' := 16) (l := i) (cs := (mpL (mvD A L) i).flatMap spG) (new := spG (mvD A L i)) (rd := rd) (by rw [lz]) (by omega) (by omega) rfl
    simp only [spB, nB, mpL_succ] at this ⊢
    simp only [cast1] at this
    clear ih hb hw lx ly lz
    generalize nm O = M at *
    generalize A.flatMap spG = N at *
    generalize (mpL (wdD A w) i).flatMap spG = X at *
    generalize (mpL (tnD A) i).flatMap spG = Y at *
    generalize (mpL (mvD A L) i).flatMap spG = Z at *
    generalize (mpL (wdD A w) n).flatMap spG = X1 at *
    generalize (mpL (tnD A) n).flatMap spG = Y1 at *
    generalize (mpL (mvD A L) n).flatMap spG = Z1 at *
    simp only [wdD, tnD, mvD, spG] at this c1 c2 c3
    generalize spAt A i = u at *
    obtain ⟨u1, u2⟩ := u
    simp only [] at this c1 c2 c3 q1 q2 b1 b2 b3
    generalize w i = wi at *
    have t1 : IntKind.i64.wrap (wi : Int) = wi := wrap_nn (by omega)
    have t2 : ((wi : Int).tmod 3) = ((wi % 3 : Nat) : Int) := rfl
    have t3 : ((wi : Int).tdiv 64) = ((wi / 64 : Nat) : Int) := rfl
    have t4 : IntKind.i64.wrap ((wi / 64 : Nat) : Int) = ((wi / 64 : Nat) : Int) := wrap_nn (by omega)
    have t5 : IntKind.i64.wrap (u1 - ((wi % 3 : Nat) : Int)) = u1 - ((wi % 3 : Nat) : Int) := wrap_i64_id (by omega) (by omega)
    have t6 : IntKind.i64.wrap (u2 + ((wi / 64 : Nat) : Int)) = u2 + ((wi / 64 : Nat) : Int) := wrap_i64_id (by omega) (by omega)
    have t7 : IntKind.i64.wrap (L : Int) = L := wrap_nn (by omega)
    generalize ((wi % 3 : Nat) : Int) = r3 at *
    generalize ((wi / 64 : Nat) : Int) = r64 at *
    rw [lpB_eq]
    by_cases h : 0 < u1 - r3
    · simp only [h, if_true] at this c1
      have h2 : r3 < u1 := by omega
      simp (maxSteps := 1000000) (disch := first | omega | decide | assumption | simp [scal]) [lenA_sl lk_22, o_indexAddrS es_22, loadA_eq ia_55, za_55, sz_55, o_fieldAddr fa_55_0 (by decide), loadA_eq ia_3, o_indexAddrA ea_63, loadA_eq ia_5, o_convI cv_5_3, o_fieldAddr fa_55_1 (by decide), o_build za_55 pl_55, ze_22, o_buildSlice es_22 ze_22 (by decide) ba_22_1, ap_22, builtin_append ni_22, lenA_sl lk_24, o_indexAddrS es_24, ze_24, o_buildSlice es_24 ze_24 (by decide) ba_24_1, ap_24, builtin_append ni_24, want_some q10_60g2, want_some q10_60g6, want_some q10_60g10, want_some q10_60g14, want_some q10_60g19, want_some q10_60g24, want_some q10_67g2, want_some q10_67g8, want_some q10_67g15, want_some q10_67g22, e0, e1, e5, e5', q1, q2, w1, t1, t2, t3, t4, t5, t6, t7, h, h2, append_some ap_22, srcCells, c1, c2, c3, this]
    · simp only [h, if_false] at this c1
      have h2 : ¬ r3 < u1 := by omega
      simp (maxSteps := 1000000) (disch := first | omega | decide | assumption | simp [scal]) [lenA_sl lk_22, o_indexAddrS es_22, loadA_eq ia_55, za_55, sz_55, o_fieldAddr fa_55_0 (by decide), loadA_eq ia_3, o_indexAddrA ea_63, loadA_eq ia_5, o_convI cv_5_3, o_fieldAddr fa_55_1 (by decide), o_build za_55 pl_55, ze_22, o_buildSlice es_22 ze_22 (by decide) ba_22_1, ap_22, builtin_append ni_22, lenA_sl lk_24, o_indexAddrS es_24, ze_24, o_buildSlice es_24 ze_24 (by decide) ba_24_1, ap_24, builtin_append ni_24, want_some q10_60g2, want_some q10_60g6, want_some q10_60g10, want_some q10_60g14, want_some q10_60g19, want_some q10_60g24, want_some q10_67g2, want_some q10_67g8, want_some q10_67g15, want_some q10_67g22, e0, e1, e5, e5', q1, q2, w1, t1, t2, t3, t4, t5, t6, t7, h, h2, append_some ap_22, srcCells, c1, c2, c3, this]
theorem l10b (B1 B2 B3 B4 : List Value) (hO : O.length = n) (n5 : n ≤ 5) : ∀ (q i : Nat), i + q = n →
    lpB Try.prog LL ⟨10, 180, 2, none⟩ n10_35 n10_36 ⟨[(9, sl 2 0 n n), (10, sl 3 0 n n), (11, sl 4 0 n n), (12, sl 5 0 n n), (13, sl 6 0 n n), (16, sl 7 0 i i), (87, iv n), (88, iv i)],
        [K0, K1, .cells B1 2 true true, nB O, .cells B2 2 true true, .cells B3 2 true true, .cells B4 2 true true, nB (bkL O n i)], []⟩ =
      some (.exit 2, ⟨[(9, sl 2 0 n n), (10, sl 3 0 n n), (11, sl 4 0 n n), (12, sl 5 0 n n), (13, sl 6 0 n n), (16, sl 7 0 n n)], [K0, K1, .cells B1 2 true true, nB O, .cells B2 2 true true, .cells B3 2 true true, .cells B4 2 true true, nB (bkL O n n)], []⟩) := by
  intro q
  induction q with
  | zero =>
    intro i hi
    obtain rfl : i = n := by omega
    simp only [nB]
    generalize nm O = M at *
    generalize nm (bkL O i i) = X at *
    rw [lpB_eq]
    simp (maxSteps := 1000000) (disch := first | omega | decide | assumption | simp [scal]) [lenA_sl lk_22, o_indexAddrS es_22, loadA_eq ia_55, za_55, sz_55, o_fieldAddr fa_55_0 (by decide), loadA_eq ia_3, o_indexAddrA ea_63, loadA_eq ia_5, o_convI cv_5_3, o_fieldAddr fa_55_1 (by decide), o_build za_55 pl_55, ze_22, o_buildSlice es_22 ze_22 (by decide) ba_22_1, ap_22, builtin_append ni_22, lenA_sl lk_24, o_indexAddrS es_24, ze_24, o_buildSlice es_24 ze_24 (by decide) ba_24_1, ap_24, builtin_append ni_24, want_some q10_60g2, want_some q10_60g6, want_some q10_60g10, want_some q10_60g14, want_some q10_60g19, want_some q10_60g24, want_some q10_67g2, want_some q10_67g8, want_some q10_67g15, want_some q10_67g22]
  | succ q ih =>
    intro i hi
    have e0 : i < n := by omega
    have e1 : (i : Int) < n := by omega
    have this := ih (i + 1) (by omega)
    have ej : n - 1 - i < n := by omega
    have p1 := nm_get (L := O) (i := n - 1 - i) (by omega)
    have c1 := fun hp b c rd => app_list (h := hp) (b := b) (c := c) (k := 1) (by' := 8) (l := i) (cs := nm (bkL O n i)) (new := [iv (O.getD (n - 1 - i) 0)]) (rd := rd) (by rw [nm_len, bkL_len]; simp) (by omega) (by omega) rfl
    have t1 : IntKind.i64.wrap ((n : Int) - 1) = (n : Int) - 1 := wrap_i64_id (by omega) (by omega)
    have t2 : IntKind.i64.wrap ((n : Int) - 1 - (i : Int)) = (n : Int) - 1 - i := wrap_i64_id (by omega) (by omega)
    have t3 : ((n : Int) - 1 - (i : Int)).toNat = n - 1 - i := by omega
    have t4 : (0 : Int) ≤ (n : Int) - 1 - i := by omega
    have t5 : (n : Int) - 1 - i < n := by omega
    have t6 : (i : Int) ≤ (n : Int) - 1 := by omega
    simp only [nB, bkL_succ, nm_app, nm_one] at this ⊢
    simp only [cast1] at this
    clear ih
    generalize O.getD (n - 1 - i) 0 = x at *
    generalize nm O = M at *
    generalize nm (bkL O n i) = X at *
    generalize nm (bkL O n n) = X1 at *
    generalize n - 1 - i = j at *
    rw [lpB_eq]
    simp (maxSteps := 1000000) (disch := first | omega | decide | assumption | simp [scal]) [lenA_sl lk_22, o_indexAddrS es_22, loadA_eq ia_55, za_55, sz_55, o_fieldAddr fa_55_0 (by decide), loadA_eq ia_3, o_indexAddrA ea_63, loadA_eq ia_5, o_convI cv_5_3, o_fieldAddr fa_55_1 (by decide), o_build za_55 pl_55, ze_22, o_buildSlice es_22 ze_22 (by decide) ba_22_1, ap_22, builtin_append ni_22, lenA_sl lk_24, o_indexAddrS es_24, ze_24, o_buildSlice es_24 ze_24 (by decide) ba_24_1, ap_24, builtin_append ni_24, want_some q10_60g2, want_some q10_60g6, want_some q10_60g10, want_some q10_60g14, want_some q10_60g19, want_some q10_60g24, want_some q10_67g2, want_some q10_67g8, want_some q10_67g15, want_some q10_67g22, e0, e1, ej, p1, t1, t2, t3, t4, t5, t6, append_some ap_24, srcCells, c1, this]
end
end Go.Proofs.Ytfccmddkblbeoaa.rk
namespace Go.Proofs.Ytfccmddkblbeoaa.rk
open Go.GE
set_option linter.unusedVariables false
set_option linter.unusedSimpArgs false
set_option linter.unusedSectionVars false
set_option maxRecDepth 100000
set_option maxHeartbeats 4000000
attribute [local simp] runOps_nil runOps_cons runOpsF_nil runOpsF_cons fstS_some fstF_some opStep_eq want_none oStep_true oStep_false fin_pure fin_read fin_alloc fin_write storeB wrN cellV addWr o_move o_assign o_pick o_alloc o_box o_load o_store o_nilCheck o_bin o_un o_extract o_callV o_callB o_callI callV_f callV_y callV_fc o_makeFunc partsA Instr.fill builtin_len builtin_max2 bin_add bin_sub bin_mul bin_quo bin_rem bin_lss bin_leq bin_gtr bin_geq bin_eql bin_neq un_neg un_not bin_shr bin_shl wrap_u64_id opd opds optAll putO nbeq nblt constOk isC ops sub cl cr co bodyOf thenS_normal thenS_ret thenS_exit thenS_goto afterN_normal afterN_ret afterN_exit afterN_goto condS_true condS_false blockS_normal blockS_ret blockS_exit blockS_goto headS normS normK_eq fixS_nil fixS_cons fix1 fixV emptyB keepO_nil keepO_cons roundC_normal roundC_exit roundC_ret roundC_goto sweep_eq sweepD rnm pickR pickW rootsB ptrT renT ptrFn renFn ptrB_flat ptrB_non renB_flat renB_non plainS_some drawS_some fpsOk disj unord range' dropTo enumT undef wrap_i64_id Value.cells mkCells ptrTo scal cellsAt rdN endS_ret resultsA Option.bind_some tupV finish reachN dep ptrL_eq ptrL renL_eq renL ptrV_bool ptrV_int ptrV_string ptrV_nilFunc ptrV_nilIface ptrV_nilPtr ptrV_ptr ptrV_nilSl ptrV_sl ptrV_iface ptrV_agg ptrV_tuple ptrV_func renV_bool renV_int renV_string renV_nilFunc renV_nilIface renV_nilPtr renV_ptr renV_nilSl renV_sl renV_iface renV_agg renV_tuple renV_func gotoS_goto gotoS_normal gotoS_exit gotoS_ret skip_seq sliceE bnd bndHi intOf optOpd keepT_nil keepT_cons keepC_t keepC_f lk_nil lk_cons lkC_t lkC_f has_nil has_cons hasC_t hasC_f rep_nil rep_cons repC_t repC_f put_eq putC_t putC_f mem_nil mem_cons memC_t memC_f idx_nil idx_cons idxC_t idxC_f reach_nil reachP_cons reachQ_t reachQ_f ptrB_dead renB_dead ins_eq
attribute [local simp] n10_1s n10_3s n10_5s n10_7s n10_10s n10_14s n10_17s n10_18s n10_16s n10_22s n10_24s n10_26s n10_27s n10_25s n10_23s n10_21s n10_20s n10_28s n10_19s n10_15s n10_13s n10_12s n10_12g n10_11s n10_9s n10_30s n10_33s n10_37s n10_40s n10_41s n10_39s n10_45s n10_46s n10_44s n10_43s n10_47s n10_42s n10_38s n10_36s n10_35s n10_35g n10_34s n10_32s n10_49s n10_51s n10_53s n10_55s n10_57s n10_60s n10_63s n10_64s n10_62s n10_65s n10_61s n10_59s n10_67s n10_68s n10_66s n10_58s n10_56s n10_54s n10_52s n10_50s n10_48s n10_31s n10_29s n10_8s n10_6s n10_4s n10_2s n10_0s Try.f10
def noF (A : List (Int × Int)) (O : List Nat) (n : Nat) : Prop := ∀ i j, i < j → j < n → qt A O j i = false
theorem pos_bad {A : List (Int × Int)} {O : List Nat} {n : Nat} (S : MO A O n) (hq : ¬ noF A O n) : posS (spAt A) n (ntAt O) n = 13 := by
  unfold posS
  rw [ord_eq S, if_neg (by decide)]
  rcases flt_eq S with ⟨h1, h2⟩ | ⟨r, s, h1, _⟩
  · exact absurd ((ris_eq S).1 h2) hq
  · rw [h1]; rfl
theorem pos_same {A A' : List (Int × Int)} {O O' : List Nat} {n : Nat} (S : MO A O n) (S' : MO A' O' n) (h : noF A O n ↔ noF A' O' n) : posS (spAt A') n (ntAt O') n = posS (spAt A) n (ntAt O) n := by
  by_cases hq : noF A O n
  · rw [pos_eq S hq, pos_eq S' (h.1 hq)]
  · rw [pos_bad S hq, pos_bad S' fun h' => hq (h.2 h')]
theorem mp_ok {f : Nat → Int × Int} {n : Nat} (h1 : 1 ≤ n) (h5 : n ≤ 5) (h : ∀ i, i < n → 0 ≤ (f i).1 ∧ (f i).1 ≤ (f i).2 ∧ (f i).2 ≤ 100000) : OkM (mpL f n) := by
  refine ⟨by rw [mpL_len]; exact h1, by rw [mpL_len]; omega, fun a ha => ?_⟩
  obtain ⟨i, hi, rfl⟩ := List.mem_map.1 ha
  exact h i (List.mem_range.1 hi)
theorem cnt_ok {A : List (Int × Int)} {n : Nat} (H : OkM A) (hA : A.length = n) (n5 : n ≤ 5) : cntE (spAt A) n = 0 ∧ cntV (spAt A) n = cR (nxB (spAt A) n) n n 0 := by
  have h := H.chk
  rw [hA] at h
  have h1 : cntE (spAt A) n = 0 := by unfold cntE; rw [if_pos h, if_neg (by omega)]
  exact ⟨h1, by unfold cntV; rw [if_pos h1]⟩
theorem quiet_self {A : List (Int × Int)} {n : Nat} (H : OkM A) (hA : A.length = n) (i : Nat) (hi : i < n) : quiet (spAt A) i i = false := by
  have := H.at (i := i) (by omega)
  unfold quiet
  simp only [decide_eq_false_iff_not]
  omega
section
variable (off n0 c off2 m c2 w0 w1 w2 w3 w4 L : Nat) {cs cs2 : List Value} {own own2 : Bool} {g : Nat → Nat × Nat} {g2 : Nat → Nat}
theorem c10 (hc : WeC cs off n0 g) (hc2 : ByC cs2 off2 m g2) (h0 : w0 < 256) (h1 : w1 < 256) (h2 : w2 < 256) (h3 : w3 < 256) (h4 : w4 < 256) (hL : L < 256) :
    LL.run 10 [sl 0 off n0 c, sl 1 off2 m c2, .agg #[uv w0, uv w1, uv w2, uv w3, uv w4], uv L] [.cells cs 2 true own, .cells cs2 1 true own2] = some ⟨.bool true, [], []⟩ := by
  have a1 := fun b1 b2 => k35 off n0 c 0 (h := [.cells cs 2 true own, b1, b2]) rfl hc
  have hM := madR_M (g := g) (n := n0)
  obtain ⟨g1, g5, glo⟩ := madR_ok (g := g) (n := n0)
  generalize madR g n0 = A at *
  obtain ⟨n, hn⟩ : ∃ n, A.length = n := ⟨_, rfl⟩
  have S : MO A (shuS g2 m n) n := ⟨hM, hn, shuS_len, by omega, shuS_perm⟩
  have a2 := fun b0 b2 b3 => k40 1 off2 m c2 (h := [b0, .cells cs2 1 true own2, b2, b3]) rfl hc2 n (by omega)
  generalize shuS g2 m n = O at *
  have hb : ∀ i, i < n → 0 ≤ (spAt A i).1 ∧ (spAt A i).1 ≤ (spAt A i).2 ∧ (spAt A i).2 < 19 := fun i hi => by
    have e : spAt A i = A[i]'(by omega) := by simp [spAt, show i < A.length by omega]
    rw [e]
    exact glo _ (List.getElem_mem _)
  have n5 := S.n5
  have hn1 : 1 ≤ n := by omega
  obtain ⟨w, hw⟩ : ∃ w : Nat → Nat, ∀ i, i < 5 → [uv w0, uv w1, uv w2, uv w3, uv w4][i]? = some (uv (w i)) ∧ w i < 256 := by
    refine ⟨fun i => [w0, w1, w2, w3, w4].getD i 0, fun i hi => ?_⟩
    match i, hi with
    | 0, _ => exact ⟨rfl, h0⟩
    | 1, _ => exact ⟨rfl, h1⟩
    | 2, _ => exact ⟨rfl, h2⟩
    | 3, _ => exact ⟨rfl, h3⟩
    | 4, _ => exact ⟨rfl, h4⟩
  have okW : OkM (mpL (wdD A w) n) := mp_ok hn1 n5 fun i hi => by
    have hbi := hb i hi
    have := hw i (by omega)
    unfold wdD
    split <;> simp only <;> omega
  have okT : OkM (mpL (tnD A) n) := mp_ok hn1 n5 fun i hi => by
    have hbi := hb i hi
    simp only [tnD]; omega
  have okV : OkM (mpL (mvD A L) n) := mp_ok hn1 n5 fun i hi => by
    have hbi := hb i hi
    simp only [mvD]; omega
  have qW : ∀ i k, i < n → k < n → quiet (spAt (mpL (wdD A w) n)) i k = true → quiet (spAt A) i k = true := fun i k hi hk h => by
    unfold quiet at h ⊢
    rw [mpL_at hi, mpL_at hk] at h
    have hbi := hb i hi
    have hbk := hb k hk
    have h' := of_decide_eq_true h
    unfold wdD at h'
    refine decide_eq_true ?_
    split at h' <;> split at h' <;> simp only at h' <;> omega
  have qT : ∀ i k, i < n → k < n → quiet (spAt (mpL (tnD A) n)) i k = quiet (spAt A) k i := fun i k hi hk => by
    unfold quiet
    rw [mpL_at hi, mpL_at hk]
    unfold tnD
    apply decide_eq_decide.2
    simp only
    omega
  have qV : ∀ i k, i < n → k < n → quiet (spAt (mpL (mvD A L) n)) i k = quiet (spAt A) i k := fun i k hi hk => by
    unfold quiet
    rw [mpL_at hi, mpL_at hk]
    unfold mvD
    apply decide_eq_decide.2
    simp only
    omega
  have SW : MO (mpL (wdD A w) n) O n := ⟨okW, mpL_len, S.lo, n5, S.hp⟩
  have ST : MO (mpL (tnD A) n) (bkL O n n) n := ⟨okT, mpL_len, bkL_len, n5, by rw [bkL_rev S.lo]; exact (List.reverse_perm O).trans S.hp⟩
  have SV : MO (mpL (mvD A L) n) O n := ⟨okV, mpL_len, S.lo, n5, S.hp⟩
  have pT : posS (spAt (mpL (tnD A) n)) n (ntAt (bkL O n n)) n = posS (spAt A) n (ntAt O) n := pos_same S ST (by
    have e : ∀ i j, i < n → j < n → qt (mpL (tnD A) n) (bkL O n n) j i = qt A O (n - 1 - i) (n - 1 - j) := fun i j hi hj => by
      unfold qt
      rw [qT _ _ (ST.lt hj) (ST.lt hi), bkL_at hi, bkL_at hj]
    constructor
    · intro h i j hij hj
      rw [e i j (by omega) hj]
      exact h (n - 1 - j) (n - 1 - i) (by omega) (by omega)
    · intro h i j hij hj
      have := h (n - 1 - j) (n - 1 - i) (by omega) (by omega)
      rw [e _ _ (by omega) (by omega)] at this
      rw [show n - 1 - (n - 1 - i) = i by omega, show n - 1 - (n - 1 - j) = j by omega] at this
      exact this)
  have pV : posS (spAt (mpL (mvD A L) n)) n (ntAt O) n = posS (spAt A) n (ntAt O) n := pos_same S SV (by
    have e : ∀ i j, i < n → j < n → qt (mpL (mvD A L) n) O j i = qt A O j i := fun i j hi hj => by
      unfold qt
      rw [qV _ _ (S.lt hj) (S.lt hi)]
    constructor
    · intro h i j hij hj; rw [e i j (by omega) hj]; exact h i j hij hj
    · intro h i j hij hj; rw [← e i j (by omega) hj]; exact h i j hij hj)
  have pW : posS (spAt A) n (ntAt O) n = 0 → posS (spAt (mpL (wdD A w) n)) n (ntAt O) n = 0 := fun h => by
    refine pos_eq SW fun i j hij hj => ?_
    have hq : noF A O n := Classical.byContradiction fun hq => by rw [pos_bad S hq] at h; exact absurd h (by decide)
    cases hx : qt (mpL (wdD A w) n) O j i
    · rfl
    · have := qW _ _ (S.lt hj) (S.lt (show i < n by omega)) hx
      have h2 := hq i j hij hj
      unfold qt at h2
      rw [h2] at this; cases this
  have cA := cnt_ok hM hn n5
  have cW := cnt_ok okW mpL_len n5
  have cT := cnt_ok okT mpL_len n5
  have cV := cnt_ok okV mpL_len n5
  have rT : cntV (spAt (mpL (tnD A) n)) n = cntV (spAt A) n := by
    rw [cT.2, cA.2]
    exact (rev_len (quiet_self hM hn) qT).symm
  have rV : cntV (spAt (mpL (mvD A L) n)) n = cntV (spAt A) n := by
    rw [cV.2, cA.2]
    refine Nat.le_antisymm (cR_mono (fun M i hi h => nx_mono (fun a b ha hb hh => by rw [qV a b ha hb]; exact hh) M i hi h) n 0) (cR_mono (fun M i hi h => nx_mono (fun a b ha hb hh => by rw [← qV a b ha hb]; exact hh) M i hi h) n 0)
  have rW : cntV (spAt A) n ≤ cntV (spAt (mpL (wdD A w) n)) n := by
    rw [cW.2, cA.2]
    exact cR_mono (fun M i hi h => nx_mono qW M i hi h) n 0
  have sA := spAt_C A
  have sW := spAt_C (mpL (wdD A w) n)
  have sT := spAt_C (mpL (tnD A) n)
  have sV := spAt_C (mpL (mvD A L) n)
  have sO := nm_C O
  have sB := nm_C (bkL O n n)
  rw [hn] at a1 sA
  rw [mpL_len] at sW sT sV
  rw [S.lo] at sO
  rw [bkL_len] at sB
  have n60 : n ≤ 60 := by omega
  have d1 := fun b0 b1 b4 b5 b6 b7 => k37 2 0 n n 3 0 n n (h := [b0, b1, spB A, nB O, b4, b5, b6, b7]) rfl rfl (by decide) sA sO n60
  have d2 := fun b0 b1 b3 b4 b5 b6 b7 => k23 2 0 n n (h := [b0, b1, spB A, b3, b4, b5, b6, b7]) rfl sA n60
  have d3 := fun b0 b1 b2 b3 b5 b6 b7 => k23 4 0 n n (h := [b0, b1, b2, b3, spB (mpL (wdD A w) n), b5, b6, b7]) rfl sW n60
  have d4 := fun b0 b1 b2 b3 b4 b6 b7 => k23 5 0 n n (h := [b0, b1, b2, b3, b4, spB (mpL (tnD A) n), b6, b7]) rfl sT n60
  have d5 := fun b0 b1 b2 b3 b4 b5 b7 => k23 6 0 n n (h := [b0, b1, b2, b3, b4, b5, spB (mpL (mvD A L) n), b7]) rfl sV n60
  have d6 := fun b0 b1 b2 b5 b6 b7 => k37 4 0 n n 3 0 n n (h := [b0, b1, b2, nB O, spB (mpL (wdD A w) n), b5, b6, b7]) rfl rfl (by decide) sW sO n60
  have d7 := fun b0 b1 b2 b3 b4 b6 => k37 5 0 n n 7 0 n n (h := [b0, b1, b2, b3, b4, spB (mpL (tnD A) n), b6, nB (bkL O n n)]) rfl rfl (by decide) sT sB n60
  have d8 := fun b0 b1 b2 b4 b5 b7 => k37 6 0 n n 3 0 n n (h := [b0, b1, b2, nB O, b4, b5, spB (mpL (mvD A L) n), b7]) rfl rfl (by decide) sV sO n60
  rw [pT] at d7
  rw [pV] at d8
  rw [cA.1] at d2
  rw [cW.1] at d3
  rw [cT.1, rT] at d4
  rw [cV.1, rV] at d5
  have lp := l10a (.cells cs 2 true own) (.cells cs2 1 true own2) (O := O) [uv w0, uv w1, uv w2, uv w3, uv w4] w L hw hL hn n5 hb n 0 (by omega)
  have lq := l10b (.cells cs 2 true own) (.cells cs2 1 true own2) (n := n) (A.flatMap spG) ((mpL (wdD A w) n).flatMap spG) ((mpL (tnD A) n).flatMap spG) ((mpL (mvD A L) n).flatMap spG) S.lo n5 n 0 (by omega)
  have z1 : (mpL (wdD A w) 0).flatMap spG = [] := rfl
  have z2 : (mpL (tnD A) 0).flatMap spG = [] := rfl
  have z3 : (mpL (mvD A L) 0).flatMap spG = [] := rfl
  have z4 : nm (bkL O n 0) = [] := rfl
  simp only [spB, nB, z1, z2, z3, z4, Int.natCast_zero] at a1 a2 d1 d2 d3 d4 d5 d6 d7 d8 lp lq
  clear z1 z2 z3 z4 sA sW sT sV sO sB S SW ST SV okW okT okV qW qT qV cA cW cT cV pT pV rT rV hM glo hb hw hc hc2
  generalize posS (spAt (mpL (wdD A w) n)) n (ntAt O) n = pw at *
  generalize posS (spAt A) n (ntAt O) n = pa at *
  generalize cntV (spAt (mpL (wdD A w) n)) n = cw at *
  generalize cntV (spAt A) n = ca at *
  generalize A.flatMap spG = N at *
  generalize (mpL (wdD A w) n).flatMap spG = X at *
  generalize (mpL (tnD A) n).flatMap spG = Y at *
  generalize (mpL (mvD A L) n).flatMap spG = Z at *
  generalize nm (bkL O n n) = Q at *
  generalize nm O = M at *
  have r1 : ¬ (cw : Int) < (ca : Int) := by omega
  have r2 : ¬ cw < ca := by omega
  refine go (by decide) ?_
  rw [run10 _ _ _ (by simp)]
  by_cases h : pa = 0
  · have h' := pW h
    subst h
    simp (maxSteps := 1000000) (disch := first | omega | decide | assumption | simp [scal]) [lenA_sl lk_22, o_indexAddrS es_22, loadA_eq ia_55, za_55, sz_55, o_fieldAddr fa_55_0 (by decide), loadA_eq ia_3, o_indexAddrA ea_63, loadA_eq ia_5, o_convI cv_5_3, o_fieldAddr fa_55_1 (by decide), o_build za_55 pl_55, ze_22, o_buildSlice es_22 ze_22 (by decide) ba_22_1, ap_22, builtin_append ni_22, lenA_sl lk_24, o_indexAddrS es_24, ze_24, o_buildSlice es_24 ze_24 (by decide) ba_24_1, ap_24, builtin_append ni_24, want_some q10_60g2, want_some q10_60g6, want_some q10_60g10, want_some q10_60g14, want_some q10_60g19, want_some q10_60g24, want_some q10_67g2, want_some q10_67g8, want_some q10_67g15, want_some q10_67g22, k14, a1, a2, d1, d2, d3, d4, d5, d6, d7, d8, lp, lq, r1, r2, h']
  · simp (maxSteps := 1000000) (disch := first | omega | decide | assumption | simp [scal]) [lenA_sl lk_22, o_indexAddrS es_22, loadA_eq ia_55, za_55, sz_55, o_fieldAddr fa_55_0 (by decide), loadA_eq ia_3, o_indexAddrA ea_63, loadA_eq ia_5, o_convI cv_5_3, o_fieldAddr fa_55_1 (by decide), o_build za_55 pl_55, ze_22, o_buildSlice es_22 ze_22 (by decide) ba_22_1, ap_22, builtin_append ni_22, lenA_sl lk_24, o_indexAddrS es_24, ze_24, o_buildSlice es_24 ze_24 (by decide) ba_24_1, ap_24, builtin_append ni_24, want_some q10_60g2, want_some q10_60g6, want_some q10_60g10, want_some q10_60g14, want_some q10_60g19, want_some q10_60g24, want_some q10_67g2, want_some q10_67g8, want_some q10_67g15, want_some q10_67g22, k14, a1, a2, d1, d2, d3, d4, d5, d6, d7, d8, lp, lq, r1, r2, h]
end
end Go.Proofs.Ytfccmddkblbeoaa.rk
namespace Go.Proofs.Ytfccmddkblbeoaa.rk
open Go.GE
set_option linter.unusedVariables false
set_option linter.unusedSimpArgs false
set_option linter.unusedSectionVars false
set_option maxRecDepth 100000
set_option maxHeartbeats 4000000
section
open Go.ChangeShapes Go.WideShapes Go.RowKit
variable {H : Type} {enc : TypeId × Value → H} {W : World} {base b0 : Nat} {v : Value} {d : DataW H} {p : List MemPlace}
theorem open_b5 (hv : Value.okWide Try.prog W .any b0 63 v) (hd : DataW.Trod enc Try.prog W base (fun _ => true) true 63 v d p) : ∃ a b x y z : Nat, v = .agg #[uv a, uv b, uv x, uv y, uv z] ∧ a < 256 ∧ b < 256 ∧ x < 256 ∧ y < 256 ∧ z < 256 := by
  obtain ⟨zs, rfl, hw⟩ := open_array (ks := [.u8, .u8, .u8, .u8, .u8]) (d := 5) Try.underlying63 (by kernel_rfl) hv hd
  have h' : wfs (List.replicate 5 .u8) zs := hw
  match zs, hw.1, h' with
  | [x1, x2, x3, x4, x5], _, h' =>
    obtain ⟨a, rfl, ha⟩ := nat_of (b := 255) (u8_wf (wfs_get h' (z := x1) (by simp)))
    obtain ⟨b, rfl, hb⟩ := nat_of (b := 255) (u8_wf (wfs_get h' (z := x2) (by simp)))
    obtain ⟨x, rfl, hx⟩ := nat_of (b := 255) (u8_wf (wfs_get h' (z := x3) (by simp)))
    obtain ⟨y, rfl, hy⟩ := nat_of (b := 255) (u8_wf (wfs_get h' (z := x4) (by simp)))
    obtain ⟨z, rfl, hz⟩ := nat_of (b := 255) (u8_wf (wfs_get h' (z := x5) (by simp)))
    exact ⟨a, b, x, y, z, rfl, ha, hb, hx, hy, hz⟩
theorem VR_b5 {m : Mp} {a b x y z : Nat} : VR m (.agg #[uv a, uv b, uv x, uv y, uv z]) (.agg #[uv a, uv b, uv x, uv y, uv z]) := .agg (.cons (.int _ _) (.cons (.int _ _) (.cons (.int _ _) (.cons (.int _ _) (.cons (.int _ _) .nil)))))
end
end Go.Proofs.Ytfccmddkblbeoaa.rk
