/-
  Contracts of functions of the program at the limit evaluator. No condition.
-/
import Derived.Test.YtfccmddkblbeoaaRBN
import Derived.Test.YtfccmddkblbeoaaE40
namespace Go.Proofs.Ytfccmddkblbeoaa.rk
open Go.GE
set_option linter.unusedVariables false
set_option linter.unusedSimpArgs false
set_option linter.unusedSectionVars false
set_option maxRecDepth 100000
set_option maxHeartbeats 4000000
attribute [local simp] runOps_nil runOps_cons runOpsF_nil runOpsF_cons fstS_some fstF_some opStep_eq want_none oStep_true oStep_false fin_pure fin_read fin_alloc fin_write storeB wrN cellV addWr o_move o_assign o_pick o_alloc o_box o_load o_store o_nilCheck o_bin o_un o_extract o_callV o_callB o_callI callV_f callV_y callV_fc o_makeFunc partsA Instr.fill builtin_len builtin_max2 bin_add bin_sub bin_mul bin_quo bin_rem bin_lss bin_leq bin_gtr bin_geq bin_eql bin_neq un_neg un_not bin_shr bin_shl wrap_u64_id opd opds optAll putO nbeq nblt constOk isC ops sub cl cr co bodyOf thenS_normal thenS_ret thenS_exit thenS_goto afterN_normal afterN_ret afterN_exit afterN_goto condS_true condS_false blockS_normal blockS_ret blockS_exit blockS_goto headS normS normK_eq fixS_nil fixS_cons fix1 fixV emptyB keepO_nil keepO_cons roundC_normal roundC_exit roundC_ret roundC_goto sweep_eq sweepD rnm pickR pickW rootsB ptrT renT ptrFn renFn ptrB_flat ptrB_non renB_flat renB_non plainS_some drawS_some fpsOk disj unord range' dropTo enumT undef wrap_i64_id Value.cells mkCells ptrTo scal cellsAt rdN endS_ret resultsA Option.bind_some tupV finish reachN dep ptrL_eq ptrL renL_eq renL ptrV_bool ptrV_int ptrV_string ptrV_nilFunc ptrV_nilIface ptrV_nilPtr ptrV_ptr ptrV_nilSl ptrV_sl ptrV_iface ptrV_agg ptrV_tuple ptrV_func renV_bool renV_int renV_string renV_nilFunc renV_nilIface renV_nilPtr renV_ptr renV_nilSl renV_sl renV_iface renV_agg renV_tuple renV_func gotoS_goto gotoS_normal gotoS_exit gotoS_ret skip_seq sliceE bnd bndHi intOf optOpd keepT_nil keepT_cons keepC_t keepC_f lk_nil lk_cons lkC_t lkC_f has_nil has_cons hasC_t hasC_f rep_nil rep_cons repC_t repC_f put_eq putC_t putC_f mem_nil mem_cons memC_t memC_f idx_nil idx_cons idxC_t idxC_f reach_nil reach_cons reachC_t reachC_f
attribute [local simp] n57_1s n57_3s n57_4s n57_2s n57_0s Try.f57 n75_1s n75_3s n75_4s n75_2s n75_0s Try.f75 n82_1s n82_4s n82_8s n82_11s n82_12s n82_10s n82_16s n82_18s n82_21s n82_22s n82_20s n82_23s n82_19s n82_17s n82_15s n82_14s n82_24s n82_13s n82_9s n82_7s n82_6s n82_6g n82_5s n82_3s n82_26s n82_27s n82_25s n82_2s n82_0s Try.f82
theorem other {f : FuncId} (hf : (14 : Nat) ≠ f) (a : List Value) (h : List Blk) : (wk.wtab.keep kpT).run f a h = none := by
  show GE.tabR [wk.ew] f a h = none
  have : Nat.beq wk.ew.f f = false := GE.beq_false.2 hf
  simp only [tabR, this, Bool.false_and, cond_false]
theorem go {f : FuncId} {args : List Value} {h : List Blk} {r : RR} (hf : (14 : Nat) ≠ f) (he : runB Try.prog LL f args h = some r) : LL.run f args h = some r := L_run (other hf _ _) he
theorem k14 (h : List Blk) : callH LL 14 [] h = some ⟨.bool true, h, [], []⟩ := callH_plain (L_tab rfl) rfl rfl
abbrev sl (b off n c : Nat) : Value := .slice (some ⟨b, off, none⟩) n c
/-- cells of spans -/
def SpC (cs : List Value) (off n : Nat) (l : Nat → Int × Int) : Prop := ∀ i, i < n → cs[off + i * 2]? = some (iv (l i).1) ∧ cs[off + i * 2 + 1]? = some (iv (l i).2)
/-- cells of integers -/
def InC (cs : List Value) (off n : Nat) (o : Nat → Int) : Prop := ∀ i, i < n → cs[off + i]? = some (iv (o i))
theorem k57 (a b c : Int) (h : List Blk) : callH LL 57 [iv a, iv b, iv c] h = some ⟨.bool (decide (a ≤ b) && decide (b ≤ c)), h, [], []⟩ := by
  refine callH_plain (go (by decide) ?_) rfl rfl
  rw [run57 _ _ _ (by simp)]
  by_cases h1 : a ≤ b <;> by_cases h2 : b ≤ c <;>
  simp (maxSteps := 1000000) (disch := first | omega | decide | assumption | simp [scal]) [want_some q57_3g3, h1, h2]
/-- a month's day that is not valid -/
def bad (s : Int × Int) : Bool := !(decide (0 ≤ s.1) && decide (s.1 ≤ s.2)) || decide (100000 < s.2)
theorem k75 (x y : Int) (h : List Blk) : callH LL 75 [.agg #[iv x, iv y]] h = some ⟨.bool (bad (x, y)), h, [], []⟩ := by
  refine callH_none rfl (fun _ => rfl) (go (by decide) ?_) fun _ => rfl
  rw [run75 _ _ _ (by simp)]
  cases h1 : (decide (0 ≤ x) && decide (x ≤ y))
  · simp (maxSteps := 1000000) (disch := first | omega | decide | assumption | simp [scal]) [o_fieldAddr fa_55_0 (by decide), loadA_eq ia_3, o_fieldAddr fa_55_1 (by decide), want_some q75_3g6, h1, k57, bad]
  · by_cases h2 : (100000 : Int) < y
    · simp (maxSteps := 1000000) (disch := first | omega | decide | assumption | simp [scal]) [o_fieldAddr fa_55_0 (by decide), loadA_eq ia_3, o_fieldAddr fa_55_1 (by decide), want_some q75_3g6, h1, h2, k57, bad]
    · simp (maxSteps := 1000000) (disch := first | omega | decide | assumption | simp [scal]) [o_fieldAddr fa_55_0 (by decide), loadA_eq ia_3, o_fieldAddr fa_55_1 (by decide), want_some q75_3g6, h1, h2, k57, bad]
def idxL (l : Nat → Int × Int) : Nat → Nat → Int
  | 0, _ => -1
  | k + 1, i => if bad (l i) = true then i else idxL l k (i + 1)
def anyB (l : Nat → Int × Int) : Nat → Nat → Bool
  | 0, _ => false
  | k + 1, i => bad (l i) || anyB l k (i + 1)
theorem idx_any {l : Nat → Int × Int} : ∀ k i, decide (0 ≤ idxL l k i) = anyB l k i := by
  intro k
  induction k with
  | zero => intro i; rfl
  | succ k ih =>
    intro i
    unfold idxL anyB
    cases h : bad (l i)
    · simp [ih]
    · simp
theorem any_iff {l : Nat → Int × Int} {n : Nat} : anyB l n 0 = false ↔ ∀ i, i < n → bad (l i) = false := by
  have key : ∀ k i, anyB l k i = false ↔ ∀ j, i ≤ j → j < i + k → bad (l j) = false := by
    intro k
    induction k with
    | zero => intro i; simp only [anyB, true_iff]; intro j h1 h2; omega
    | succ k ih =>
      intro i
      simp only [anyB, Bool.or_eq_false_iff, ih]
      constructor
      · rintro ⟨h1, h2⟩ j h3 h4
        by_cases hj : j = i
        · subst hj; exact h1
        · exact h2 j (by omega) (by omega)
      · intro h
        exact ⟨h i (by omega) (by omega), fun j h1 h2 => h j (by omega) (by omega)⟩
  rw [key]
  constructor
  · intro h i hi; exact h i (by omega) (by omega)
  · intro h j _ hj; exact h j (by omega)
section
variable (off n c : Nat) (cs : List Value) (own : Bool) (l : Nat → Int × Int)
theorem l82 (hc : SpC cs off n l) (hn : n ≤ 60) : ∀ k i : Nat, i + k = n →
    lpB Try.prog LL ⟨82, 19, 1, none⟩ n82_6 n82_7 ⟨[(0, sl 0 off n c), (1, .func (.func 75) #[] #[]), (7, iv n), (8, iv i)], [.cells cs 2 true own], []⟩ =
      if idxL l k i = -1 then some (.exit 0, ⟨[], [.cells cs 2 true own], []⟩) else some (.ret, ⟨[(4, iv (idxL l k i))], [.cells cs 2 true own], []⟩) := by
  intro k
  induction k with
  | zero =>
    intro i hi
    obtain rfl : i = n := by omega
    rw [lpB_eq]
    simp (maxSteps := 1000000) (disch := first | omega | decide | assumption | simp [scal]) [lenA_sl lk_22, o_indexAddrS es_22, loadA_eq ia_55, idxL]
  | succ k ih =>
    intro i hi
    have e1 : i < n := by omega
    have this := ih (i + 1) (by omega)
    obtain ⟨e2, e3⟩ := hc i e1
    obtain ⟨x, y, hxy⟩ : ∃ x y, l i = (x, y) := ⟨_, _, rfl⟩
    rw [hxy] at e2 e3
    unfold idxL
    rw [hxy]
    rw [lpB_eq]
    simp only [cast1] at this
    cases h1 : bad (x, y)
    · simp (maxSteps := 1000000) (disch := first | omega | decide | assumption | simp [scal]) [lenA_sl lk_22, o_indexAddrS es_22, loadA_eq ia_55, e1, e2, e3, k75, h1, this]
    · have : ¬ ((i : Int) = -1) := by omega
      simp (maxSteps := 1000000) (disch := first | omega | decide | assumption | simp [scal]) [lenA_sl lk_22, o_indexAddrS es_22, loadA_eq ia_55, e1, e2, e3, k75, h1, this]
end
end Go.Proofs.Ytfccmddkblbeoaa.rk
namespace Go.Proofs.Ytfccmddkblbeoaa.rk
open Go.GE
set_option linter.unusedVariables false
set_option linter.unusedSimpArgs false
set_option linter.unusedSectionVars false
set_option maxRecDepth 100000
set_option maxHeartbeats 4000000
attribute [local simp] runOps_nil runOps_cons runOpsF_nil runOpsF_cons fstS_some fstF_some opStep_eq want_none oStep_true oStep_false fin_pure fin_read fin_alloc fin_write storeB wrN cellV addWr o_move o_assign o_pick o_alloc o_box o_load o_store o_nilCheck o_bin o_un o_extract o_callV o_callB o_callI callV_f callV_y callV_fc o_makeFunc partsA Instr.fill builtin_len builtin_max2 bin_add bin_sub bin_mul bin_quo bin_rem bin_lss bin_leq bin_gtr bin_geq bin_eql bin_neq un_neg un_not bin_shr bin_shl wrap_u64_id opd opds optAll putO nbeq nblt constOk isC ops sub cl cr co bodyOf thenS_normal thenS_ret thenS_exit thenS_goto afterN_normal afterN_ret afterN_exit afterN_goto condS_true condS_false blockS_normal blockS_ret blockS_exit blockS_goto headS normS normK_eq fixS_nil fixS_cons fix1 fixV emptyB keepO_nil keepO_cons roundC_normal roundC_exit roundC_ret roundC_goto sweep_eq sweepD rnm pickR pickW rootsB ptrT renT ptrFn renFn ptrB_flat ptrB_non renB_flat renB_non plainS_some drawS_some fpsOk disj unord range' dropTo enumT undef wrap_i64_id Value.cells mkCells ptrTo scal cellsAt rdN endS_ret resultsA Option.bind_some tupV finish reachN dep ptrL_eq ptrL renL_eq renL ptrV_bool ptrV_int ptrV_string ptrV_nilFunc ptrV_nilIface ptrV_nilPtr ptrV_ptr ptrV_nilSl ptrV_sl ptrV_iface ptrV_agg ptrV_tuple ptrV_func renV_bool renV_int renV_string renV_nilFunc renV_nilIface renV_nilPtr renV_ptr renV_nilSl renV_sl renV_iface renV_agg renV_tuple renV_func gotoS_goto gotoS_normal gotoS_exit gotoS_ret skip_seq sliceE bnd bndHi intOf optOpd keepT_nil keepT_cons keepC_t keepC_f lk_nil lk_cons lkC_t lkC_f has_nil has_cons hasC_t hasC_f rep_nil rep_cons repC_t repC_f put_eq putC_t putC_f mem_nil mem_cons memC_t memC_f idx_nil idx_cons idxC_t idxC_f reach_nil reach_cons reachC_t reachC_f
attribute [local simp] n82_1s n82_4s n82_8s n82_11s n82_12s n82_10s n82_16s n82_18s n82_21s n82_22s n82_20s n82_23s n82_19s n82_17s n82_15s n82_14s n82_24s n82_13s n82_9s n82_7s n82_6s n82_6g n82_5s n82_3s n82_26s n82_27s n82_25s n82_2s n82_0s Try.f82 n74_1s n74_3s n74_4s n74_2s n74_0s Try.f74 n45_1s n45_5s n45_8s n45_9s n45_7s n45_11s n45_14s n45_15s n45_13s n45_17s n45_20s n45_21s n45_19s n45_22s n45_18s n45_16s n45_12s n45_10s n45_6s n45_4s n45_3s n45_24s n45_25s n45_23s n45_2s n45_0s Try.f45 n77_1s n77_3s n77_4s n77_2s n77_0s Try.f77
/-- a month's check -/
def chkS (l : Nat → Int × Int) (n : Nat) : Int := if n = 0 then 2 else if 30 < n then 3 else if anyB l n 0 = true then 1 else 0
def quiet (l : Nat → Int × Int) (i k : Nat) : Bool := decide ((l i).2 < (l k).1)
section
variable (b off n c : Nat) {cs : List Value} {own : Bool} {l : Nat → Int × Int} {h : List Blk} (hb : h[b]? = some (.cells cs 2 true own)) (hc : SpC cs off n l)
include hb hc
theorem k82 (hn : n ≤ 60) : callH LL 82 [sl b off n c, .func (.func 75) #[] #[]] h = some ⟨iv (idxL l n 0), h, [b], []⟩ := by
  refine callH_1 rfl hb noIdB_flat (args' := [sl 0 off n c, .func (.func 75) #[] #[]]) (by simp [renV, dep, optAll, idx, nbeq]) (go (by decide) ?_) fun _ => rfl
  rw [run82 _ _ _ (by simp)]
  have this := l82 off n c cs own l hc hn n 0 (by omega)
  by_cases h1 : idxL l n 0 = -1
  · rw [if_pos h1] at this
    simp only [Int.natCast_zero] at this
    rw [h1]
    simp (maxSteps := 1000000) (disch := first | omega | decide | assumption | simp [scal]) [lenA_sl lk_22, o_indexAddrS es_22, loadA_eq ia_55, this]
  · rw [if_neg h1] at this
    simp only [Int.natCast_zero] at this
    simp (maxSteps := 1000000) (disch := first | omega | decide | assumption | simp [scal]) [lenA_sl lk_22, o_indexAddrS es_22, loadA_eq ia_55, this]
theorem k74 (hn : n ≤ 60) : callH LL 74 [sl b off n c, .func (.func 75) #[] #[]] h = some ⟨.bool (anyB l n 0), h, [b], []⟩ := by
  refine callH_1 rfl hb noIdB_flat (args' := [sl 0 off n c, .func (.func 75) #[] #[]]) (by simp [renV, dep, optAll, idx, nbeq]) (go (by decide) ?_) fun _ => rfl
  rw [run74 _ _ _ (by simp)]
  have a := k82 0 off n c (h := [.cells cs 2 true own]) rfl hc hn
  have e := idx_any (l := l) n 0
  generalize idxL l n 0 = x at *
  rw [← e]
  by_cases h1 : 0 ≤ x <;>
  simp (maxSteps := 1000000) (disch := first | omega | decide | assumption | simp [scal]) [a, h1]
theorem k45 (hn : n ≤ 60) : callH LL 45 [sl b off n c] h = some ⟨iv (chkS l n), h, [b], []⟩ := by
  refine callH_1 rfl hb noIdB_flat (args' := [sl 0 off n c]) (by simp [renV, dep, optAll, idx, nbeq]) (go (by decide) ?_) fun _ => rfl
  rw [run45 _ _ _ (by simp)]
  unfold chkS
  by_cases h1 : n = 0
  · subst h1
    simp (maxSteps := 1000000) (disch := first | omega | decide | assumption | simp [scal]) [lenA_sl lk_22]
  have h1' : ¬ ((n : Int) = 0) := by omega
  by_cases h2 : 30 < n
  · have h2' : (30 : Int) < n := by omega
    simp (maxSteps := 1000000) (disch := first | omega | decide | assumption | simp [scal]) [lenA_sl lk_22, h1, h1', h2, h2']
  have h2' : ¬ (30 : Int) < n := by omega
  have a := k74 0 off n c (h := [.cells cs 2 true own]) rfl hc hn
  cases h3 : anyB l n 0 <;> rw [h3] at a
  · simp (maxSteps := 1000000) (disch := first | omega | decide | assumption | simp [scal]) [lenA_sl lk_22, h1, h1', h2, h2', a]
  · simp (maxSteps := 1000000) (disch := first | omega | decide | assumption | simp [scal]) [lenA_sl lk_22, h1, h1', h2, h2', a]
theorem k77 (i k : Nat) (hi : i < n) (hk : k < n) : callH LL 77 [sl b off n c, iv i, iv k] h = some ⟨.bool (quiet l i k), h, [b], []⟩ := by
  refine callH_1 rfl hb noIdB_flat (args' := [sl 0 off n c, iv i, iv k]) (by simp [renV, dep, optAll, idx, nbeq]) (go (by decide) ?_) fun _ => rfl
  rw [run77 _ _ _ (by simp)]
  obtain ⟨e1, e2⟩ := hc i hi
  obtain ⟨e3, e4⟩ := hc k hk
  by_cases h1 : (l i).2 < (l k).1 <;>
  simp (maxSteps := 1000000) (disch := first | omega | decide | assumption | simp [scal]) [o_indexAddrS es_78, o_fieldAddr fa_55_1 (by decide), loadA_eq ia_3, o_fieldAddr fa_55_0 (by decide), hi, hk, e1, e2, e3, e4, quiet, h1]
end
end Go.Proofs.Ytfccmddkblbeoaa.rk
namespace Go.Proofs.Ytfccmddkblbeoaa.rk
open Go.GE
set_option linter.unusedVariables false
set_option linter.unusedSimpArgs false
set_option linter.unusedSectionVars false
set_option maxRecDepth 100000
set_option maxHeartbeats 4000000
attribute [local simp] runOps_nil runOps_cons runOpsF_nil runOpsF_cons fstS_some fstF_some opStep_eq want_none oStep_true oStep_false fin_pure fin_read fin_alloc fin_write storeB wrN cellV addWr o_move o_assign o_pick o_alloc o_box o_load o_store o_nilCheck o_bin o_un o_extract o_callV o_callB o_callI callV_f callV_y callV_fc o_makeFunc partsA Instr.fill builtin_len builtin_max2 bin_add bin_sub bin_mul bin_quo bin_rem bin_lss bin_leq bin_gtr bin_geq bin_eql bin_neq un_neg un_not bin_shr bin_shl wrap_u64_id opd opds optAll putO nbeq nblt constOk isC ops sub cl cr co bodyOf thenS_normal thenS_ret thenS_exit thenS_goto afterN_normal afterN_ret afterN_exit afterN_goto condS_true condS_false blockS_normal blockS_ret blockS_exit blockS_goto headS normS normK_eq fixS_nil fixS_cons fix1 fixV emptyB keepO_nil keepO_cons roundC_normal roundC_exit roundC_ret roundC_goto sweep_eq sweepD rnm pickR pickW rootsB ptrT renT ptrFn renFn ptrB_flat ptrB_non renB_flat renB_non plainS_some drawS_some fpsOk disj unord range' dropTo enumT undef wrap_i64_id Value.cells mkCells ptrTo scal cellsAt rdN endS_ret resultsA Option.bind_some tupV finish reachN dep ptrL_eq ptrL renL_eq renL ptrV_bool ptrV_int ptrV_string ptrV_nilFunc ptrV_nilIface ptrV_nilPtr ptrV_ptr ptrV_nilSl ptrV_sl ptrV_iface ptrV_agg ptrV_tuple ptrV_func renV_bool renV_int renV_string renV_nilFunc renV_nilIface renV_nilPtr renV_ptr renV_nilSl renV_sl renV_iface renV_agg renV_tuple renV_func gotoS_goto gotoS_normal gotoS_exit gotoS_ret skip_seq sliceE bnd bndHi intOf optOpd keepT_nil keepT_cons keepC_t keepC_f lk_nil lk_cons lkC_t lkC_f has_nil has_cons hasC_t hasC_f rep_nil rep_cons repC_t repC_f put_eq putC_t putC_f mem_nil mem_cons memC_t memC_f idx_nil idx_cons idxC_t idxC_f reach_nil reach_cons reachC_t reachC_f
attribute [local simp] n72_1s n72_4s n72_6s n72_9s n72_10s n72_8s n72_11s n72_7s n72_5s n72_3s n72_14s n72_17s n72_18s n72_16s n72_19s n72_15s n72_13s n72_21s n72_24s n72_28s n72_31s n72_32s n72_30s n72_36s n72_40s n72_43s n72_44s n72_42s n72_46s n72_49s n72_50s n72_48s n72_51s n72_47s n72_45s n72_41s n72_39s n72_38s n72_52s n72_37s n72_35s n72_34s n72_53s n72_33s n72_29s n72_27s n72_26s n72_26g n72_25s n72_23s n72_55s n72_56s n72_54s n72_22s n72_20s n72_12s n72_2s n72_0s Try.f72
abbrev wv (n : Nat) : Value := .int .u32 (n : Int)
theorem wrap_u32 {n : Nat} (h : n < 2 ^ 32) : IntKind.u32.wrap (n : Int) = n := by simp [IntKind.wrap, IntKind.bits, IntKind.signed]; omega
theorem bin_and1w {P : Program} {t : TypeId} {c : Bool} {w : Nat} (h : w < 2 ^ 32) : binA P .and t c (.int .u32 (w : Int)) (.int .u32 1) = some (.int .u32 ((w % 2 : Nat) : Int)) := by
  have e : (BitVec.ofInt 32 (w : Int) &&& BitVec.ofInt 32 1).toNat = w % 2 := by
    rw [BitVec.ofInt_natCast]
    rw [show BitVec.ofInt 32 1 = BitVec.ofNat 32 1 from rfl, BitVec.toNat_and, BitVec.toNat_ofNat, BitVec.toNat_ofNat, Nat.mod_eq_of_lt h, Nat.mod_eq_of_lt (by decide : 1 < 2 ^ 32), Nat.and_one_is_mod]
  have e' : IntKind.u32.wrap ((BitVec.ofInt 32 (w : Int) &&& BitVec.ofInt 32 1).toNat : Int) = ((w % 2 : Nat) : Int) := by rw [e]; exact wrap_u32 (by omega)
  show some (Value.int .u32 (IntKind.u32.wrap ((BitVec.ofInt 32 (w : Int) &&& BitVec.ofInt 32 1).toNat : Int))) = _
  rw [e']
theorem bin_orw {P : Program} {t : TypeId} {c : Bool} {w v : Nat} (h : w < 2 ^ 32) (h' : v < 2 ^ 32) : binA P .or t c (.int .u32 (w : Int)) (.int .u32 (v : Int)) = some (.int .u32 ((w ||| v : Nat) : Int)) := by
  have hl : w ||| v < 2 ^ 32 := Nat.or_lt_two_pow h h'
  have e : (BitVec.ofInt 32 (w : Int) ||| BitVec.ofInt 32 (v : Int)).toNat = w ||| v := by
    rw [BitVec.ofInt_natCast, BitVec.ofInt_natCast, BitVec.toNat_or, BitVec.toNat_ofNat, BitVec.toNat_ofNat, Nat.mod_eq_of_lt h, Nat.mod_eq_of_lt h']
  have e' : IntKind.u32.wrap ((BitVec.ofInt 32 (w : Int) ||| BitVec.ofInt 32 (v : Int)).toNat : Int) = ((w ||| v : Nat) : Int) := by rw [e]; exact wrap_u32 hl
  show some (Value.int .u32 (IntKind.u32.wrap ((BitVec.ofInt 32 (w : Int) ||| BitVec.ofInt 32 (v : Int)).toNat : Int))) = _
  rw [e']
theorem fdiv_poww {w i : Nat} (hi : i < 32) : ((w : Int).fdiv (2 ^ min i IntKind.u32.bits)) = ((w / 2 ^ i : Nat) : Int) := by
  rw [show min i IntKind.u32.bits = i from Nat.min_eq_left (Nat.le_of_lt hi), Int.fdiv_eq_ediv_of_nonneg _ (by exact_mod_cast Nat.zero_le _)]
  simp
theorem shl_poww {J : Nat} (hJ : J < 32) : IntKind.u32.wrap (2 ^ min J IntKind.u32.bits) = ((2 ^ J : Nat) : Int) := by
  rw [show min J IntKind.u32.bits = J from Nat.min_eq_left (Nat.le_of_lt hJ), show ((2 : Int) ^ J) = ((2 ^ J : Nat) : Int) by simp]
  exact wrap_u32 (Nat.pow_lt_pow_right (by decide) hJ)
/-- whether a number stands among the k places from j on -/
def seenK (o : Nat → Int) (x : Int) : Nat → Nat → Bool
  | 0, _ => false
  | k + 1, j => decide (o j = x) || seenK o x k (j + 1)
theorem seen_iff {o : Nat → Int} {x : Int} : ∀ k j, seenK o x k j = true ↔ ∃ p, j ≤ p ∧ p < j + k ∧ o p = x := by
  intro k
  induction k with
  | zero => intro j; simp only [seenK, Bool.false_eq_true, false_iff]; rintro ⟨p, h1, h2, _⟩; omega
  | succ k ih =>
    intro j
    simp only [seenK, Bool.or_eq_true, decide_eq_true_eq, ih]
    constructor
    · rintro (h | ⟨p, h1, h2, h3⟩)
      · exact ⟨j, by omega, by omega, h⟩
      · exact ⟨p, by omega, by omega, h3⟩
    · rintro ⟨p, h1, h2, h3⟩
      by_cases hp : p = j
      · subst hp; exact .inl h3
      · exact .inr ⟨p, by omega, by omega, h3⟩
/-- the days met so far, as bits -/
def maskN (o : Nat → Int) : Nat → Nat
  | 0 => 0
  | i + 1 => maskN o i ||| 2 ^ (o i).toNat
theorem mask_bit {o : Nat → Int} {x : Nat} : ∀ {i}, (∀ j, j < i → 0 ≤ o j) → (maskN o i).testBit x = seenK o x i 0 := by
  intro i h
  apply Bool.eq_iff_iff.2
  rw [seen_iff]
  induction i with
  | zero => simp [maskN]
  | succ i ih =>
    have h0 := h i (by omega)
    have ih := ih fun j hj => h j (by omega)
    simp only [maskN, Nat.testBit_or, Bool.or_eq_true, Nat.testBit_two_pow, decide_eq_true_eq]
    rw [ih]
    constructor
    · rintro (⟨p, h1, h2, h3⟩ | h3)
      · exact ⟨p, by omega, by omega, h3⟩
      · exact ⟨i, by omega, by omega, by omega⟩
    · rintro ⟨p, h1, h2, h3⟩
      by_cases hp : p = i
      · subst hp; exact .inr (by omega)
      · exact .inl ⟨p, by omega, by omega, h3⟩
theorem mask_lt {o : Nat → Int} : ∀ {i}, (∀ j, j < i → 0 ≤ o j ∧ o j < 30) → maskN o i < 2 ^ 30 := by
  intro i
  induction i with
  | zero => intro _; simp [maskN]
  | succ i ih =>
    intro h
    have h0 := h i (by omega)
    exact Nat.or_lt_two_pow (ih fun j hj => h j (by omega)) (Nat.pow_lt_pow_right (by decide) (by omega))
/-- what is wrong with an order, from the i-th day on -/
def ordL (o : Nat → Int) (n : Nat) : Nat → Nat → Int
  | 0, _ => 0
  | k + 1, i => if (decide (0 ≤ o i) && decide (o i ≤ (n : Int) - 1)) = false then 6 else if seenK o (o i) i 0 = true then 7 else ordL o n k (i + 1)
def ordS (l : Nat → Int × Int) (n : Nat) (o : Nat → Int) (m : Nat) : Int := if chkS l n ≠ 0 then chkS l n else if m ≠ n then 4 else ordL o n m 0
section
variable (off n c off2 m c2 : Nat) (cs cs2 : List Value) (own own2 : Bool) (l : Nat → Int × Int) (o : Nat → Int)
theorem l72 (hc2 : InC cs2 off2 m o) (hn : n ≤ 30) (hm : m = n) : ∀ k i : Nat, i + k = m → (∀ j, j < i → 0 ≤ o j ∧ o j < n) →
    lpB Try.prog LL ⟨72, 43, 2, none⟩ n72_26 n72_27 ⟨[(0, sl 0 off n c), (6, wv (maskN o i)), (19, sl 1 off2 m c2), (20, iv m), (21, iv i)], [.cells cs 2 true own, .cells cs2 1 true own2], []⟩ =
      if ordL o n k i = 0 then some (.exit 0, ⟨[], [.cells cs 2 true own, .cells cs2 1 true own2], []⟩) else some (.ret, ⟨[(4, iv (ordL o n k i))], [.cells cs 2 true own, .cells cs2 1 true own2], []⟩) := by
  intro k
  induction k with
  | zero =>
    intro i hi hj
    obtain rfl : i = m := by omega
    generalize maskN o i = M
    rw [lpB_eq]
    simp (maxSteps := 1000000) (disch := first | omega | decide | assumption | simp [scal]) [lenA_sl lk_24, lenA_sl lk_78, o_indexAddrS es_24, loadA_eq ia_3, ordL]
  | succ k ih =>
    intro i hi hj
    have e1 : i < m := by omega
    have e1' : (i : Int) < m := by omega
    have e2 := hc2 i e1
    have hb := fun x => @mask_bit o x i fun j h => (hj j h).1
    have hl := @mask_lt o i fun j h => by have := hj j h; omega
    unfold ordL
    by_cases h1 : 0 ≤ o i ∧ o i ≤ (n : Int) - 1
    · have this := ih (i + 1) (by omega) (fun j h => by
        by_cases hj' : j = i
        · subst hj'; omega
        · exact hj j (by omega))
      obtain ⟨h1, h2⟩ := h1
      obtain ⟨x, hx⟩ : ∃ x : Nat, o i = x := ⟨(o i).toNat, by omega⟩
      have hb := hb x
      rw [show maskN o (i + 1) = maskN o i ||| 2 ^ (o i).toNat from rfl] at this
      rw [hx] at e2 h1 h2 this ⊢
      rw [Int.toNat_natCast] at this
      generalize maskN o i = M at *
      generalize seenK o (x : Int) i 0 = s at *
      have f1 := @fdiv_poww M x (by omega)
      have hq : M / 2 ^ x < 2 ^ 32 := by have := Nat.div_le_self M (2 ^ x); omega
      have f2 := fun c => @bin_and1w Try.prog 76 c _ hq
      have f3 := @shl_poww x (by omega)
      have p1 : 2 ^ x < 2 ^ 32 := Nat.pow_lt_pow_right (by decide) (by omega)
      have f4 := fun c => @bin_orw Try.prog 76 c M (2 ^ x) (by omega) p1
      rw [Nat.testBit_eq_decide_div_mod_eq] at hb
      generalize ((2 ^ x : Nat) : Int) = Q at *
      generalize M / 2 ^ x = q at *
      simp only [cast1] at this
      rw [lpB_eq]
      cases s
      · have hb' : ¬ (q : Int) % 2 = 1 := by have := of_decide_eq_false hb; omega
        simp (maxSteps := 1000000) (disch := first | omega | decide | assumption | simp [scal]) [lenA_sl lk_24, lenA_sl lk_78, o_indexAddrS es_24, loadA_eq ia_3, e1, e1', e2, h1, h2, k57, f1, f2, f3, f4, hb', this]
      · have hb' : (q : Int) % 2 = 1 := by have := of_decide_eq_true hb; omega
        have hb'' := eq_true hb'
        simp (maxSteps := 1000000) (disch := first | omega | decide | assumption | simp [scal]) [lenA_sl lk_24, lenA_sl lk_78, o_indexAddrS es_24, loadA_eq ia_3, e1, e1', e2, h1, h2, k57, f1, f2, f3, f4, hb'']
    · have h1' : (decide (0 ≤ o i) && decide (o i ≤ (n : Int) - 1)) = false := by
        simp only [Bool.and_eq_false_iff, decide_eq_false_iff_not]; omega
      generalize maskN o i = M at *
      rw [lpB_eq]
      simp (maxSteps := 1000000) (disch := first | omega | decide | assumption | simp [scal]) [lenA_sl lk_24, lenA_sl lk_78, o_indexAddrS es_24, loadA_eq ia_3, e1, e1', e2, h1', k57]
end
theorem so_ren {b off n c b2 off2 m c2 : Nat} {vs : List Value} (hne : b ≠ b2) (hv : vs.all scal = true) : optAll (renV (idx [b, b2]) dep) (sl b off n c :: sl b2 off2 m c2 :: vs) = some (sl 0 off n c :: sl 1 off2 m c2 :: vs) := by
  have e1 : renV (idx [b, b2]) dep (sl b off n c) = some (sl 0 off n c) := by simp [renV, dep, idx, nbeq]
  have e2 : renV (idx [b, b2]) dep (sl b2 off2 m c2) = some (sl 1 off2 m c2) := by simp [renV, dep, idx, nbeq, hne, hne.symm]
  have e3 : ∀ vs : List Value, vs.all scal = true → optAll (renV (idx [b, b2]) dep) vs = some vs := by
    intro vs hv
    induction vs with
    | nil => rfl
    | cons v vs ih =>
      simp only [List.all_cons, Bool.and_eq_true] at hv
      have e : renV (idx [b, b2]) dep v = some v := by cases v <;> simp [scal] at hv <;> rfl
      simp only [optAll, e, ih hv.2]
  simp only [optAll, e1, e2, e3 vs hv]
section
variable (b off n c b2 off2 m c2 : Nat) {cs cs2 : List Value} {own own2 : Bool} {l : Nat → Int × Int} {o : Nat → Int} {h : List Blk}
  (hb : h[b]? = some (.cells cs 2 true own)) (hb2 : h[b2]? = some (.cells cs2 1 true own2)) (hne : b ≠ b2) (hc : SpC cs off n l) (hc2 : InC cs2 off2 m o)
include hb hb2 hne hc hc2
theorem k72 (hn : n ≤ 60) : callH LL 72 [sl b off n c, sl b2 off2 m c2] h = some ⟨iv (ordS l n o m), h, [b, b2], []⟩ := by
  refine callH_2 rfl hb hb2 hne noIdB_flat noIdB_flat (so_ren hne rfl) (go (by decide) ?_) fun _ => rfl
  rw [run72 _ _ _ (by simp)]
  have a := fun bx => k45 0 off n c (h := .cells cs 2 true own :: bx) rfl hc hn
  unfold ordS
  by_cases h1 : chkS l n = 0
  · have n30 : n ≤ 30 := by
      unfold chkS at h1
      by_cases h0 : n = 0
      · omega
      · rw [if_neg h0] at h1
        by_cases h2 : 30 < n
        · rw [if_pos h2] at h1; omega
        · omega
    rw [h1] at a
    by_cases h2 : m = n
    · have this := l72 off n c off2 m c2 cs cs2 own own2 o hc2 n30 h2 m 0 (by omega) (fun j hj => by omega)
      have h2' : (m : Int) = n := by omega
      rw [show maskN o 0 = 0 from rfl, show wv 0 = .int .u32 0 from rfl] at this
      simp only [Int.natCast_zero] at this
      by_cases h3 : ordL o n m 0 = 0
      · rw [if_pos h3] at this
        subst h2
        simp (maxSteps := 1000000) (disch := first | omega | decide | assumption | simp [scal]) [lenA_sl lk_24, lenA_sl lk_78, o_indexAddrS es_24, loadA_eq ia_3, a, h1, h3, this]
      · rw [if_neg h3] at this
        subst h2
        simp (maxSteps := 1000000) (disch := first | omega | decide | assumption | simp [scal]) [lenA_sl lk_24, lenA_sl lk_78, o_indexAddrS es_24, loadA_eq ia_3, a, h1, h3, this]
    · have h2' : ¬ (m : Int) = n := by omega
      simp (maxSteps := 1000000) (disch := first | omega | decide | assumption | simp [scal]) [lenA_sl lk_24, lenA_sl lk_78, o_indexAddrS es_24, loadA_eq ia_3, a, h1, h2, h2']
  · simp (maxSteps := 1000000) (disch := first | omega | decide | assumption | simp [scal]) [lenA_sl lk_24, lenA_sl lk_78, o_indexAddrS es_24, loadA_eq ia_3, a, h1]
end
end Go.Proofs.Ytfccmddkblbeoaa.rk
namespace Go.Proofs.Ytfccmddkblbeoaa.rk
open Go.GE
set_option linter.unusedVariables false
set_option linter.unusedSimpArgs false
set_option linter.unusedSectionVars false
set_option maxRecDepth 100000
set_option maxHeartbeats 4000000
attribute [local simp] runOps_nil runOps_cons runOpsF_nil runOpsF_cons fstS_some fstF_some opStep_eq want_none oStep_true oStep_false fin_pure fin_read fin_alloc fin_write storeB wrN cellV addWr o_move o_assign o_pick o_alloc o_box o_load o_store o_nilCheck o_bin o_un o_extract o_callV o_callB o_callI callV_f callV_y callV_fc o_makeFunc partsA Instr.fill builtin_len builtin_max2 bin_add bin_sub bin_mul bin_quo bin_rem bin_lss bin_leq bin_gtr bin_geq bin_eql bin_neq un_neg un_not bin_shr bin_shl wrap_u64_id opd opds optAll putO nbeq nblt constOk isC ops sub cl cr co bodyOf thenS_normal thenS_ret thenS_exit thenS_goto afterN_normal afterN_ret afterN_exit afterN_goto condS_true condS_false blockS_normal blockS_ret blockS_exit blockS_goto headS normS normK_eq fixS_nil fixS_cons fix1 fixV emptyB keepO_nil keepO_cons roundC_normal roundC_exit roundC_ret roundC_goto sweep_eq sweepD rnm pickR pickW rootsB ptrT renT ptrFn renFn ptrB_flat ptrB_non renB_flat renB_non plainS_some drawS_some fpsOk disj unord range' dropTo enumT undef wrap_i64_id Value.cells mkCells ptrTo scal cellsAt rdN endS_ret resultsA Option.bind_some tupV finish reachN dep ptrL_eq ptrL renL_eq renL ptrV_bool ptrV_int ptrV_string ptrV_nilFunc ptrV_nilIface ptrV_nilPtr ptrV_ptr ptrV_nilSl ptrV_sl ptrV_iface ptrV_agg ptrV_tuple ptrV_func renV_bool renV_int renV_string renV_nilFunc renV_nilIface renV_nilPtr renV_ptr renV_nilSl renV_sl renV_iface renV_agg renV_tuple renV_func gotoS_goto gotoS_normal gotoS_exit gotoS_ret skip_seq sliceE bnd bndHi intOf optOpd keepT_nil keepT_cons keepC_t keepC_f lk_nil lk_cons lkC_t lkC_f has_nil has_cons hasC_t hasC_f rep_nil rep_cons repC_t repC_f put_eq putC_t putC_f mem_nil mem_cons memC_t memC_f idx_nil idx_cons idxC_t idxC_f reach_nil reach_cons reachC_t reachC_f
attribute [local simp] n73_1s n73_4s n73_8s n73_11s n73_12s n73_10s n73_16s n73_18s n73_23s n73_25s n73_26s n73_24s n73_22s n73_30s n73_33s n73_34s n73_32s n73_35s n73_31s n73_29s n73_28s n73_36s n73_27s n73_21s n73_20s n73_20g n73_19s n73_17s n73_15s n73_14s n73_37s n73_13s n73_9s n73_7s n73_6s n73_6g n73_5s n73_3s n73_39s n73_40s n73_38s n73_2s n73_0s Try.f73 n42_1s n42_4s n42_6s n42_9s n42_10s n42_8s n42_11s n42_7s n42_5s n42_3s n42_13s n42_16s n42_19s n42_20s n42_18s n42_21s n42_17s n42_15s n42_23s n42_24s n42_22s n42_14s n42_12s n42_2s n42_0s Try.f42
/-- the place q of a fault at p -/
def fltQ (l : Nat → Int × Int) (o : Nat → Int) (p : Nat) : Nat → Nat → Option Nat
  | 0, _ => none
  | k + 1, q => if quiet l (o q).toNat (o p).toNat = true then some q else fltQ l o p k (q + 1)
def fltP (l : Nat → Int × Int) (o : Nat → Int) (m : Nat) : Nat → Nat → Option (Nat × Nat)
  | 0, _ => none
  | k + 1, p => match fltQ l o p (m - (p + 1)) (p + 1) with
    | some q => some (p, q)
    | none => fltP l o m k (p + 1)
section
variable (off n c off2 m c2 : Nat) (cs cs2 : List Value) (own own2 : Bool) (l : Nat → Int × Int) (o : Nat → Int)
  (hc : SpC cs off n l) (hc2 : InC cs2 off2 m o) (hm : m ≤ 60) (ho : ∀ j, j < m → 0 ≤ o j ∧ o j < n)
include hc hc2 hm ho
theorem l73i (p : Nat) (hp : p < m) : ∀ k q : Nat, q + k = m →
    lpB Try.prog LL ⟨73, 35, 2, none⟩ n73_20 n73_21 ⟨[(7, iv p), (8, iv q), (0, sl 0 off n c), (1, sl 1 off2 m c2), (10, iv m), (11, iv p)], [.cells cs 2 true own, .cells cs2 1 true own2], []⟩ =
      match fltQ l o p k q with
      | none => some (.exit 2, ⟨[(0, sl 0 off n c), (1, sl 1 off2 m c2), (10, iv m), (11, iv p)], [.cells cs 2 true own, .cells cs2 1 true own2], []⟩)
      | some q' => some (.ret, ⟨[(4, iv p), (5, iv q'), (6, .bool true)], [.cells cs 2 true own, .cells cs2 1 true own2], []⟩) := by
  intro k
  induction k with
  | zero =>
    intro q hq
    obtain rfl : q = m := by omega
    rw [lpB_eq]
    simp (maxSteps := 1000000) (disch := first | omega | decide | assumption | simp [scal]) [lenA_sl lk_24, o_indexAddrS es_24, loadA_eq ia_3, fltQ]
  | succ k ih =>
    intro q hq
    have e1 : q < m := by omega
    have e1' : (q : Int) < m := by omega
    have e3 := hc2 q e1
    have e4 := hc2 p hp
    have this := ih (q + 1) (by omega)
    obtain ⟨x, hx⟩ : ∃ x : Nat, o q = x := ⟨(o q).toNat, by have := ho q e1; omega⟩
    obtain ⟨y, hy⟩ : ∃ y : Nat, o p = y := ⟨(o p).toNat, by have := ho p hp; omega⟩
    have a := fun bx => k77 0 off n c (h := .cells cs 2 true own :: bx) rfl hc x y (by have := ho q e1; omega) (by have := ho p hp; omega)
    unfold fltQ
    simp only [cast1] at this
    rw [hx] at e3
    rw [hy] at e4
    rw [hx, hy, Int.toNat_natCast, Int.toNat_natCast]
    rw [lpB_eq]
    cases h1 : quiet l x y <;> rw [h1] at a
    · simp (maxSteps := 1000000) (disch := first | omega | decide | assumption | simp [scal]) [lenA_sl lk_24, o_indexAddrS es_24, loadA_eq ia_3, e1, e1', e3, e4, hp, a, this]
    · simp (maxSteps := 1000000) (disch := first | omega | decide | assumption | simp [scal]) [lenA_sl lk_24, o_indexAddrS es_24, loadA_eq ia_3, e1, e1', e3, e4, hp, a]
theorem l73 : ∀ k p : Nat, p + k = m →
    lpB Try.prog LL ⟨73, 35, 2, none⟩ n73_6 n73_7 ⟨[(0, sl 0 off n c), (1, sl 1 off2 m c2), (10, iv m), (11, iv p)], [.cells cs 2 true own, .cells cs2 1 true own2], []⟩ =
      match fltP l o m k p with
      | none => some (.exit 0, ⟨[], [.cells cs 2 true own, .cells cs2 1 true own2], []⟩)
      | some r => some (.ret, ⟨[(4, iv r.1), (5, iv r.2), (6, .bool true)], [.cells cs 2 true own, .cells cs2 1 true own2], []⟩) := by
  intro k
  induction k with
  | zero =>
    intro p hp
    obtain rfl : p = m := by omega
    rw [lpB_eq]
    simp (maxSteps := 1000000) (disch := first | omega | decide | assumption | simp [scal]) [lenA_sl lk_24, o_indexAddrS es_24, loadA_eq ia_3, fltP]
  | succ k ih =>
    intro p hp
    have e1 : p < m := by omega
    have e1' : (p : Int) < m := by omega
    have this := ih (p + 1) (by omega)
    have inn := l73i off n c off2 m c2 cs cs2 own own2 l o hc hc2 hm ho p e1 (m - (p + 1)) (p + 1) (by omega)
    unfold fltP
    simp only [cast1] at this inn
    rw [lpB_eq]
    cases h1 : fltQ l o p (m - (p + 1)) (p + 1) with
    | none =>
      rw [h1] at inn
      simp (maxSteps := 1000000) (disch := first | omega | decide | assumption | simp [scal]) [lenA_sl lk_24, o_indexAddrS es_24, loadA_eq ia_3, e1, e1', inn, this]
    | some q =>
      rw [h1] at inn
      simp (maxSteps := 1000000) (disch := first | omega | decide | assumption | simp [scal]) [lenA_sl lk_24, o_indexAddrS es_24, loadA_eq ia_3, e1, e1', inn]
end
theorem ord_ok {l : Nat → Int × Int} {n : Nat} {o : Nat → Int} {m : Nat} (h : ordS l n o m = 0) : m = n ∧ n ≤ 30 ∧ ∀ j, j < m → 0 ≤ o j ∧ o j < n := by
  unfold ordS at h
  by_cases h1 : chkS l n = 0
  · rw [if_neg (by simp [h1])] at h
    by_cases h2 : m = n
    · rw [if_neg (by simp [h2])] at h
      refine ⟨h2, ?_, ?_⟩
      · unfold chkS at h1
        by_cases h0 : n = 0
        · omega
        · rw [if_neg h0] at h1
          by_cases h2 : 30 < n
          · rw [if_pos h2] at h1; omega
          · omega
      · have key : ∀ k i, ordL o n k i = 0 → ∀ j, i ≤ j → j < i + k → 0 ≤ o j ∧ o j < n := by
          intro k
          induction k with
          | zero => intro i _ j h3 h4; omega
          | succ k ih =>
            intro i hk j h3 h4
            unfold ordL at hk
            cases h5 : (decide (0 ≤ o i) && decide (o i ≤ (n : Int) - 1))
            · rw [if_pos h5] at hk; omega
            · rw [if_neg (by simp [h5])] at hk
              by_cases h6 : seenK o (o i) i 0 = true
              · rw [if_pos h6] at hk; omega
              · rw [if_neg h6] at hk
                simp only [Bool.and_eq_true, decide_eq_true_eq] at h5
                by_cases hj : j = i
                · subst hj; omega
                · exact ih (i + 1) hk j (by omega) (by omega)
        intro j hj
        exact key m 0 h j (by omega) (by omega)
    · rw [if_pos h2] at h; omega
  · rw [if_pos h1] at h; omega
/-- the first fault, and the error -/
def fltV (l : Nat → Int × Int) (n : Nat) (o : Nat → Int) (m : Nat) : Value :=
  if ordS l n o m ≠ 0 then .tuple #[iv 0, iv 0, iv (ordS l n o m)] else match fltP l o m m 0 with
    | none => .tuple #[iv 0, iv 0, iv 6]
    | some r => .tuple #[iv r.1, iv r.2, iv 0]
theorem fltV_ren {l : Nat → Int × Int} {n : Nat} {o : Nat → Int} {m : Nat} (g : Nat → Option Nat) : renV g dep (fltV l n o m) = some (fltV l n o m) := by
  unfold fltV
  split
  · rfl
  · split <;> rfl
def posS (l : Nat → Int × Int) (n : Nat) (o : Nat → Int) (m : Nat) : Int := if ordS l n o m ≠ 0 then ordS l n o m else if (fltP l o m m 0).isSome then 13 else 0
section
variable (b off n c b2 off2 m c2 : Nat) {cs cs2 : List Value} {own own2 : Bool} {l : Nat → Int × Int} {o : Nat → Int} {h : List Blk}
  (hb : h[b]? = some (.cells cs 2 true own)) (hb2 : h[b2]? = some (.cells cs2 1 true own2)) (hne : b ≠ b2) (hc : SpC cs off n l) (hc2 : InC cs2 off2 m o)
include hb hb2 hne hc hc2
theorem k73 (hm : m ≤ 60) (ho : ∀ j, j < m → 0 ≤ o j ∧ o j < n) : callH LL 73 [sl b off n c, sl b2 off2 m c2] h = some ⟨match fltP l o m m 0 with | none => .tuple #[iv 0, iv 0, .bool false] | some r => .tuple #[iv r.1, iv r.2, .bool true], h, [b, b2], []⟩ := by
  refine callH_2 rfl hb hb2 hne noIdB_flat noIdB_flat (so_ren hne rfl) (go (by decide) ?_) fun _ => by split <;> rfl
  rw [run73 _ _ _ (by simp)]
  have this := l73 off n c off2 m c2 cs cs2 own own2 l o hc hc2 hm ho m 0 (by omega)
  simp only [Int.natCast_zero] at this
  cases h1 : fltP l o m m 0 with
  | none =>
    rw [h1] at this
    simp (maxSteps := 1000000) (disch := first | omega | decide | assumption | simp [scal]) [lenA_sl lk_24, o_indexAddrS es_24, loadA_eq ia_3, this]
  | some r =>
    rw [h1] at this
    simp (maxSteps := 1000000) (disch := first | omega | decide | assumption | simp [scal]) [lenA_sl lk_24, o_indexAddrS es_24, loadA_eq ia_3, this]
theorem k42 (hn : n ≤ 60) : callH LL 42 [sl b off n c, sl b2 off2 m c2] h = some ⟨fltV l n o m, h, [b, b2], []⟩ := by
  refine callH_2 rfl hb hb2 hne noIdB_flat noIdB_flat (so_ren hne rfl) (go (by decide) ?_) fltV_ren
  rw [run42 _ _ _ (by simp)]
  have a := fun bx => k72 0 off n c 1 off2 m c2 (h := .cells cs 2 true own :: .cells cs2 1 true own2 :: bx) rfl rfl (by decide) hc hc2 hn
  unfold fltV
  by_cases h1 : ordS l n o m = 0
  · obtain ⟨h2, h3, h4⟩ := ord_ok h1
    have a1 := fun bx => k73 0 off n c 1 off2 m c2 (h := .cells cs 2 true own :: .cells cs2 1 true own2 :: bx) rfl rfl (by decide) hc hc2 (by omega) h4
    rw [h1] at a
    cases h5 : fltP l o m m 0 with
    | none =>
      rw [h5] at a1
      simp (maxSteps := 1000000) (disch := first | omega | decide | assumption | simp [scal]) [a, h1, a1]
    | some r =>
      rw [h5] at a1
      simp (maxSteps := 1000000) (disch := first | omega | decide | assumption | simp [scal]) [a, h1, a1]
  · simp (maxSteps := 1000000) (disch := first | omega | decide | assumption | simp [scal]) [a, h1]
end
end Go.Proofs.Ytfccmddkblbeoaa.rk
namespace Go.Proofs.Ytfccmddkblbeoaa.rk
open Go.GE
set_option linter.unusedVariables false
set_option linter.unusedSimpArgs false
set_option linter.unusedSectionVars false
set_option maxRecDepth 100000
set_option maxHeartbeats 4000000
attribute [local simp] runOps_nil runOps_cons runOpsF_nil runOpsF_cons fstS_some fstF_some opStep_eq want_none oStep_true oStep_false fin_pure fin_read fin_alloc fin_write storeB wrN cellV addWr o_move o_assign o_pick o_alloc o_box o_load o_store o_nilCheck o_bin o_un o_extract o_callV o_callB o_callI callV_f callV_y callV_fc o_makeFunc partsA Instr.fill builtin_len builtin_max2 bin_add bin_sub bin_mul bin_quo bin_rem bin_lss bin_leq bin_gtr bin_geq bin_eql bin_neq un_neg un_not bin_shr bin_shl wrap_u64_id opd opds optAll putO nbeq nblt constOk isC ops sub cl cr co bodyOf thenS_normal thenS_ret thenS_exit thenS_goto afterN_normal afterN_ret afterN_exit afterN_goto condS_true condS_false blockS_normal blockS_ret blockS_exit blockS_goto headS normS normK_eq fixS_nil fixS_cons fix1 fixV emptyB keepO_nil keepO_cons roundC_normal roundC_exit roundC_ret roundC_goto sweep_eq sweepD rnm pickR pickW rootsB ptrT renT ptrFn renFn ptrB_flat ptrB_non renB_flat renB_non plainS_some drawS_some fpsOk disj unord range' dropTo enumT undef wrap_i64_id Value.cells mkCells ptrTo scal cellsAt rdN endS_ret resultsA Option.bind_some tupV finish reachN dep ptrL_eq ptrL renL_eq renL ptrV_bool ptrV_int ptrV_string ptrV_nilFunc ptrV_nilIface ptrV_nilPtr ptrV_ptr ptrV_nilSl ptrV_sl ptrV_iface ptrV_agg ptrV_tuple ptrV_func renV_bool renV_int renV_string renV_nilFunc renV_nilIface renV_nilPtr renV_ptr renV_nilSl renV_sl renV_iface renV_agg renV_tuple renV_func gotoS_goto gotoS_normal gotoS_exit gotoS_ret skip_seq sliceE bnd bndHi intOf optOpd keepT_nil keepT_cons keepC_t keepC_f lk_nil lk_cons lkC_t lkC_f has_nil has_cons hasC_t hasC_f rep_nil rep_cons repC_t repC_f put_eq putC_t putC_f mem_nil mem_cons memC_t memC_f idx_nil idx_cons idxC_t idxC_f reach_nil reach_cons reachC_t reachC_f
attribute [local simp] n37_1s n37_4s n37_6s n37_9s n37_10s n37_8s n37_11s n37_7s n37_5s n37_3s n37_14s n37_16s n37_19s n37_20s n37_18s n37_21s n37_17s n37_15s n37_13s n37_23s n37_24s n37_22s n37_12s n37_2s n37_0s Try.f37 n47_1s n47_4s n47_6s n47_9s n47_10s n47_8s n47_11s n47_7s n47_5s n47_3s n47_13s n47_17s n47_20s n47_21s n47_19s n47_23s n47_26s n47_27s n47_25s n47_28s n47_24s n47_22s n47_18s n47_16s n47_15s n47_30s n47_31s n47_29s n47_14s n47_12s n47_2s n47_0s Try.f47
def verS (l : Nat → Int × Int) (n : Nat) (o : Nat → Int) (m : Nat) (p q : Int) : Int :=
  if ordS l n o m ≠ 0 then ordS l n o m
  else if ((decide (0 ≤ p) && decide (p ≤ (m : Int) - 1)) && (decide (0 ≤ q) && decide (q ≤ (m : Int) - 1))) = false then 6
  else if q ≤ p ∨ quiet l (o q.toNat).toNat (o p.toNat).toNat = false then 12 else 0
section
variable (b off n c b2 off2 m c2 : Nat) {cs cs2 : List Value} {own own2 : Bool} {l : Nat → Int × Int} {o : Nat → Int} {h : List Blk}
  (hb : h[b]? = some (.cells cs 2 true own)) (hb2 : h[b2]? = some (.cells cs2 1 true own2)) (hne : b ≠ b2) (hc : SpC cs off n l) (hc2 : InC cs2 off2 m o)
include hb hb2 hne hc hc2
theorem k37 (hn : n ≤ 60) : callH LL 37 [sl b off n c, sl b2 off2 m c2] h = some ⟨iv (posS l n o m), h, [b, b2], []⟩ := by
  refine callH_2 rfl hb hb2 hne noIdB_flat noIdB_flat (so_ren hne rfl) (go (by decide) ?_) fun _ => rfl
  rw [run37 _ _ _ (by simp)]
  have a := fun bx => k72 0 off n c 1 off2 m c2 (h := .cells cs 2 true own :: .cells cs2 1 true own2 :: bx) rfl rfl (by decide) hc hc2 hn
  unfold posS
  by_cases h1 : ordS l n o m = 0
  · obtain ⟨h2, h3, h4⟩ := ord_ok h1
    have a1 := fun bx => k73 0 off n c 1 off2 m c2 (h := .cells cs 2 true own :: .cells cs2 1 true own2 :: bx) rfl rfl (by decide) hc hc2 (by omega) h4
    rw [h1] at a
    cases h5 : fltP l o m m 0 with
    | none =>
      rw [h5] at a1
      simp (maxSteps := 1000000) (disch := first | omega | decide | assumption | simp [scal]) [a, h1, a1]
    | some r =>
      rw [h5] at a1
      simp (maxSteps := 1000000) (disch := first | omega | decide | assumption | simp [scal]) [a, h1, a1]
  · simp (maxSteps := 1000000) (disch := first | omega | decide | assumption | simp [scal]) [a, h1]
theorem k47 (p q : Int) (hn : n ≤ 60) : callH LL 47 [sl b off n c, sl b2 off2 m c2, iv p, iv q] h = some ⟨iv (verS l n o m p q), h, [b, b2], []⟩ := by
  refine callH_2 rfl hb hb2 hne noIdB_flat noIdB_flat (so_ren hne rfl) (go (by decide) ?_) fun _ => rfl
  rw [run47 _ _ _ (by simp)]
  have a := fun bx => k72 0 off n c 1 off2 m c2 (h := .cells cs 2 true own :: .cells cs2 1 true own2 :: bx) rfl rfl (by decide) hc hc2 hn
  unfold verS
  by_cases h1 : ordS l n o m = 0
  · obtain ⟨h2, h3, h4⟩ := ord_ok h1
    rw [h1] at a
    cases h5 : (decide (0 ≤ p) && decide (p ≤ (m : Int) - 1))
    · simp (maxSteps := 1000000) (disch := first | omega | decide | assumption | simp [scal]) [lenA_sl lk_24, o_indexAddrS es_24, loadA_eq ia_3, want_some q47_17g4, want_some q47_23g3, a, h1, k57, h5]
    cases h6 : (decide (0 ≤ q) && decide (q ≤ (m : Int) - 1))
    · simp (maxSteps := 1000000) (disch := first | omega | decide | assumption | simp [scal]) [lenA_sl lk_24, o_indexAddrS es_24, loadA_eq ia_3, want_some q47_17g4, want_some q47_23g3, a, h1, k57, h5, h6]
    have g5 := h5; have g6 := h6
    simp only [Bool.and_eq_true, decide_eq_true_eq] at g5 g6
    obtain ⟨p, rfl⟩ : ∃ x : Nat, p = x := ⟨p.toNat, by omega⟩
    obtain ⟨q, rfl⟩ : ∃ x : Nat, q = x := ⟨q.toNat, by omega⟩
    have e1 : p < m := by omega
    have e2 : q < m := by omega
    obtain ⟨x, hx⟩ : ∃ x : Nat, o p = x := ⟨(o p).toNat, by have := h4 p e1; omega⟩
    obtain ⟨y, hy⟩ : ∃ y : Nat, o q = y := ⟨(o q).toNat, by have := h4 q e2; omega⟩
    have a1 := fun bx => k77 0 off n c (h := .cells cs 2 true own :: bx) rfl hc y x (by have := h4 q e2; omega) (by have := h4 p e1; omega)
    have e3 := hc2 p e1
    have e4 := hc2 q e2
    rw [hx] at e3
    rw [hy] at e4
    rw [Int.toNat_natCast, Int.toNat_natCast, hx, hy, Int.toNat_natCast, Int.toNat_natCast]
    by_cases h7 : q ≤ p
    · have h7' : (q : Int) ≤ p := by omega
      rw [if_neg (by simp [h1]), if_neg (by decide), if_pos (.inl h7')]
      simp (maxSteps := 1000000) (disch := first | omega | decide | assumption | simp [scal]) [lenA_sl lk_24, o_indexAddrS es_24, loadA_eq ia_3, want_some q47_17g4, want_some q47_23g3, a, k57, g5.2, g6.2, h7, h7']
    · have h7' : ¬ (q : Int) ≤ p := by omega
      generalize quiet l y x = z at *
      cases z
      · rw [if_neg (by simp [h1]), if_neg (by decide), if_pos (.inr rfl)]
        simp (maxSteps := 1000000) (disch := first | omega | decide | assumption | simp [scal]) [lenA_sl lk_24, o_indexAddrS es_24, loadA_eq ia_3, want_some q47_17g4, want_some q47_23g3, a, k57, g5.2, g6.2, h7, h7', e1, e2, e3, e4, a1]
      · rw [if_neg (by simp [h1]), if_neg (by decide), if_neg (by simp [h7'])]
        simp (maxSteps := 1000000) (disch := first | omega | decide | assumption | simp [scal]) [lenA_sl lk_24, o_indexAddrS es_24, loadA_eq ia_3, want_some q47_17g4, want_some q47_23g3, a, k57, g5.2, g6.2, h7, h7', e1, e2, e3, e4, a1]
  · simp (maxSteps := 1000000) (disch := first | omega | decide | assumption | simp [scal]) [lenA_sl lk_24, o_indexAddrS es_24, loadA_eq ia_3, want_some q47_17g4, want_some q47_23g3, a, h1]
end
end Go.Proofs.Ytfccmddkblbeoaa.rk
namespace Go.Proofs.Ytfccmddkblbeoaa.rk
open Go.GE
set_option linter.unusedVariables false
set_option linter.unusedSimpArgs false
set_option linter.unusedSectionVars false
set_option maxRecDepth 100000
set_option maxHeartbeats 4000000
section
open Go.ChangeShapes Go.WideShapes Go.RowKit
variable {H : Type} {enc : TypeId × Value → H} {W : World} {base b0 : Nat} {v : Value} {d : DataW H} {p : List MemPlace}
abbrev spG (p : Int × Int) : List Value := [iv p.1, iv p.2]
end
end Go.Proofs.Ytfccmddkblbeoaa.rk
namespace Go.GE
theorem rdN_mid (cs : List Value) : ∀ (k o : Nat), o + k ≤ cs.length → rdN cs o k = some ((cs.drop o).take k) := by
  intro k
  induction k with
  | zero => intro o h; simp [rdN]
  | succ k ih =>
    intro o h
    have h1 := ih (o + 1) (by omega)
    have h2 : o < cs.length := by omega
    unfold rdN
    rw [h1]
    simp only [List.getElem?_eq_getElem h2]
    rw [← List.getElem_cons_drop h2]
    rfl
/-- elements of another block are added to a list's cells -/
theorem app_src {h h' : List Blk} {b c k by' l b2 o2 n c2 : Nat} {cs cs2 : List Value} {own : Bool} {k' : Nat} (hlen : cs.length = l * k) (hb : h'[b2]? = some (.cells cs2 k' true own)) (ho : o2 + n * k ≤ cs2.length) (h0 : 0 < n)
    (hl : (l + n) * by' ≤ 2 ^ 46) (hl2 : l + n ≤ 2 ^ 46) (hn : cs2.all cellV = true) :
    appS h k by' b 0 l c (some (.cells cs k true true)) (srcCells h' k (.slice (some ⟨b2, o2, none⟩) n c2)) = some ⟨.slice (some ⟨h.length, 0, none⟩) (l + n) (l + n), h.set b .dead ++ [.cells (cs ++ (cs2.drop o2).take (n * k)) k true true], [b, b2], [b]⟩ := by
  obtain ⟨m, rfl⟩ : ∃ m, n = m + 1 := ⟨n - 1, by omega⟩
  have hr := rdN_all cs (l * k) 0 (by omega)
  have hs := rdN_mid cs2 ((m + 1) * k) o2 ho
  have ha : ((cs2.drop o2).take ((m + 1) * k)).all cellV = true := by
    rw [List.all_eq_true] at hn ⊢
    exact fun v hv => hn v (List.mem_of_mem_drop (List.mem_of_mem_take hv))
  simp only [srcCells, hb, hs, Option.map_some, Bool.true_or, appS, hr, List.drop_zero]
  rw [if_pos ⟨hl, hl2, by trivial, ha⟩]
  rfl
theorem app_src0 {h h' : List Blk} {b c k by' l b2 o2 c2 : Nat} {blk : Option Blk} : appS h k by' b 0 l c blk (srcCells h' k (.slice (some ⟨b2, o2, none⟩) 0 c2)) = some ⟨.slice (some ⟨b, 0, none⟩) l c, h, [], []⟩ := by
  simp only [srcCells, appS]
end Go.GE
namespace Go.Proofs.Ytfccmddkblbeoaa.rk
open Go.GE
set_option linter.unusedVariables false
set_option linter.unusedSimpArgs false
set_option linter.unusedSectionVars false
set_option maxRecDepth 100000
attribute [local simp] runOps_nil runOps_cons runOpsF_nil runOpsF_cons fstS_some fstF_some opStep_eq want_none oStep_true oStep_false fin_pure fin_read fin_alloc fin_write storeB wrN cellV addWr o_move o_assign o_pick o_alloc o_box o_load o_store o_nilCheck o_bin o_un o_extract o_callV o_callB o_callI callV_f callV_y callV_fc o_makeFunc partsA Instr.fill builtin_len builtin_max2 bin_add bin_sub bin_mul bin_quo bin_rem bin_lss bin_leq bin_gtr bin_geq bin_eql bin_neq un_neg un_not bin_shr bin_shl wrap_u64_id opd opds optAll putO nbeq nblt constOk isC ops sub cl cr co bodyOf thenS_normal thenS_ret thenS_exit thenS_goto afterN_normal afterN_ret afterN_exit afterN_goto condS_true condS_false blockS_normal blockS_ret blockS_exit blockS_goto headS normS normK_eq fixS_nil fixS_cons fix1 fixV emptyB keepO_nil keepO_cons roundC_normal roundC_exit roundC_ret roundC_goto sweep_eq sweepD rnm pickR pickW rootsB ptrT renT ptrFn renFn ptrB_flat ptrB_non renB_flat renB_non plainS_some drawS_some fpsOk disj unord range' dropTo enumT undef wrap_i64_id Value.cells mkCells ptrTo scal cellsAt rdN endS_ret resultsA Option.bind_some tupV finish reachN dep ptrL_eq ptrL renL_eq renL ptrV_bool ptrV_int ptrV_string ptrV_nilFunc ptrV_nilIface ptrV_nilPtr ptrV_ptr ptrV_nilSl ptrV_sl ptrV_iface ptrV_agg ptrV_tuple ptrV_func renV_bool renV_int renV_string renV_nilFunc renV_nilIface renV_nilPtr renV_ptr renV_nilSl renV_sl renV_iface renV_agg renV_tuple renV_func gotoS_goto gotoS_normal gotoS_exit gotoS_ret skip_seq sliceE bnd bndHi intOf optOpd keepT_nil keepT_cons keepC_t keepC_f lk_nil lk_cons lkC_t lkC_f has_nil has_cons hasC_t hasC_f rep_nil rep_cons repC_t repC_f put_eq putC_t putC_f mem_nil mem_cons memC_t memC_f idx_nil idx_cons idxC_t idxC_f reach_nil reach_cons reachC_t reachC_f
attribute [local simp] n44_1s n44_3s n44_6s n44_11s n44_13s n44_14s n44_12s n44_10s n44_17s n44_16s n44_18s n44_15s n44_9s n44_8s n44_8g n44_7s n44_5s n44_20s n44_21s n44_19s n44_4s n44_2s n44_0s Try.f44 n35_1s n35_3s n35_6s n35_11s n35_13s n35_14s n35_12s n35_10s n35_18s n35_19s n35_17s n35_16s n35_20s n35_15s n35_9s n35_8s n35_8g n35_7s n35_5s n35_23s n35_25s n35_26s n35_24s n35_22s n35_28s n35_29s n35_27s n35_21s n35_4s n35_2s n35_0s Try.f35
set_option maxHeartbeats 4000000
abbrev uv (n : Nat) : Value := .int .u8 (n : Int)
/-- cells of a weather's days: pairs of bytes -/
def WeC (cs : List Value) (off n : Nat) (g : Nat → Nat × Nat) : Prop := ∀ i, i < n → (cs[off + i * 2]? = some (uv (g i).1) ∧ cs[off + i * 2 + 1]? = some (uv (g i).2)) ∧ (g i).1 < 256 ∧ (g i).2 < 256
def madD (g : Nat → Nat × Nat) (i : Nat) : Int × Int := (((g i).1 : Int) % 14, ((g i).1 : Int) % 14 + ((g i).2 : Int) % 6)
def madR (g : Nat → Nat × Nat) (n : Nat) : List (Int × Int) := if n = 0 then [(3, 4)] else (List.range (min n 5)).map (madD g)
theorem tm14 {z : Nat} : ((z : Int).tmod 14) = (z : Int) % 14 := Int.tmod_eq_emod_of_nonneg (by omega)
theorem tm6 {z : Nat} : ((z : Int).tmod 6) = (z : Int) % 6 := Int.tmod_eq_emod_of_nonneg (by omega)
/-- a list of spans as a block; a list as a month -/
abbrev spB (A : List (Int × Int)) : Blk := .cells (A.flatMap spG) 2 true true
def spAt (A : List (Int × Int)) (i : Nat) : Int × Int := A.getD i (0, 0)
theorem spAt_C (A : List (Int × Int)) : SpC (A.flatMap spG) 0 A.length (spAt A) := by
  intro i hi
  have hz : A[i]? = some (spAt A i) := by simp [spAt, hi]
  refine ⟨?_, ?_⟩
  · have := flat_get (g := spG) (k := 2) (fun _ => rfl) hz (j := 0) (by omega); simpa [spG] using this
  · have := flat_get (g := spG) (k := 2) (fun _ => rfl) hz (j := 1) (by omega); simpa [spG] using this
theorem k44 (h : List Blk) (b : Nat) (hb : h[b]? = some (.cells [iv 3, iv 4] 1 true true)) : callH LL 44 [sl b 0 2 2] h = some ⟨sl h.length 0 1 1, h ++ [.cells [iv 3, iv 4] 2 true true], [b], []⟩ := by
  refine callN_1 rfl hb noIdB_flat (args' := [sl 0 0 2 2]) (by simp [renV, dep, optAll, idx, nbeq]) (v := sl 1 0 1 1) (news := [.cells [iv 3, iv 4] 2 true true]) (go (by decide) ?_) (by intro blk hb; simp at hb; subst hb; exact noIdB_flat) (by simp [renV, dep])
  have l2 : lpB Try.prog LL ⟨44, 26, 1, none⟩ n44_8 n44_9 ⟨[(0, sl 0 0 2 2), (3, sl 1 0 1 1), (4, iv 2)], [.cells [iv 3, iv 4] 1 true true, .cells [iv 3, iv 4] 2 true true], []⟩ = some (.exit 0, ⟨[(3, sl 1 0 1 1)], [.cells [iv 3, iv 4] 1 true true, .cells [iv 3, iv 4] 2 true true], []⟩) := by
    rw [lpB_eq]
    simp (maxSteps := 1000000) (disch := first | omega | decide | assumption | simp [scal]) [lenA_sl lk_24, o_indexAddrS es_24, loadA_eq ia_3, za_55, o_build za_55 pl_55, o_indexAddrS es_22, ze_22, o_buildSlice es_22 ze_22 (by decide) ba_22_1, ap_22, builtin_append ni_22]
  have l1 : lpB Try.prog LL ⟨44, 26, 1, none⟩ n44_8 n44_9 ⟨[(0, sl 0 0 2 2), (3, sl 1 0 0 0), (4, iv 0)], [.cells [iv 3, iv 4] 1 true true, .cells [] 2 true true], []⟩ = some (.exit 0, ⟨[(3, sl 1 0 1 1)], [.cells [iv 3, iv 4] 1 true true, .cells [iv 3, iv 4] 2 true true], []⟩) := by
    have c1 := fun hp b c rd => app_list (h := hp) (b := b) (c := c) (k := 2) (by' := 16) (l := 0) (cs := []) (new := [iv 3, iv 4]) (rd := rd) rfl (by omega) (by omega) rfl
    rw [lpB_eq]
    simp (maxSteps := 1000000) (disch := first | omega | decide | assumption | simp [scal]) [lenA_sl lk_24, o_indexAddrS es_24, loadA_eq ia_3, za_55, o_build za_55 pl_55, o_indexAddrS es_22, ze_22, o_buildSlice es_22 ze_22 (by decide) ba_22_1, ap_22, builtin_append ni_22, append_some ap_22, srcCells, c1, l2]
  rw [run44 _ _ _ (by simp)]
  simp (maxSteps := 1000000) (disch := first | omega | decide | assumption | simp [scal]) [lenA_sl lk_24, o_indexAddrS es_24, loadA_eq ia_3, za_55, o_build za_55 pl_55, o_indexAddrS es_22, ze_22, o_buildSlice es_22 ze_22 (by decide) ba_22_1, ap_22, builtin_append ni_22, l1]
section
variable (off n c : Nat) {cs : List Value} {own : Bool} {g : Nat → Nat × Nat}
theorem l35 (hc : WeC cs off n g) : ∀ (q i : Nat), i + q = min n 5 →
    lpB Try.prog LL ⟨35, 43, 1, none⟩ n35_8 n35_9 ⟨[(0, sl 0 off n c), (3, sl 1 0 i i), (4, iv i)], [.cells cs 2 true own, spB ((List.range i).map (madD g))], []⟩ =
      some (.exit 0, ⟨[(3, sl 1 0 (min n 5) (min n 5))], [.cells cs 2 true own, spB ((List.range (min n 5)).map (madD g))], []⟩) := by
  intro q
  induction q with
  | zero =>
    intro i hi
    obtain rfl : i = min n 5 := by omega
    generalize (List.range (min n 5)).map (madD g) = F at *
    generalize hm : min n 5 = M at *
    rw [lpB_eq]
    by_cases e1 : M < n
    · have e2 : ¬ M < 5 := by omega
      have e3 : ¬ (M : Int) < 5 := by omega
      simp (maxSteps := 1000000) (disch := first | omega | decide | assumption | simp [scal]) [lenA_sl lk_47, o_indexAddrS es_47, o_indexAddrA ea_60, loadA_eq ia_5, o_convI cv_5_3, za_55, o_build za_55 pl_55, o_indexAddrS es_22, ze_22, o_buildSlice es_22 ze_22 (by decide) ba_22_1, ap_22, builtin_append ni_22, lenA_sl lk_22, o_indexAddrS es_24, ze_24, o_buildSlice es_24 ze_24 (by decide) ba_24_2, want_some q35_11g4, e1, e3]
    · simp (maxSteps := 1000000) (disch := first | omega | decide | assumption | simp [scal]) [lenA_sl lk_47, o_indexAddrS es_47, o_indexAddrA ea_60, loadA_eq ia_5, o_convI cv_5_3, za_55, o_build za_55 pl_55, o_indexAddrS es_22, ze_22, o_buildSlice es_22 ze_22 (by decide) ba_22_1, ap_22, builtin_append ni_22, lenA_sl lk_22, o_indexAddrS es_24, ze_24, o_buildSlice es_24 ze_24 (by decide) ba_24_2, want_some q35_11g4, e1]
  | succ q ih =>
    intro i hi
    have e1 : i < n := by omega
    have e3 : (i : Int) < 5 := by omega
    obtain ⟨⟨p1, p2⟩, g1, g2⟩ := hc _ e1
    have this := ih (i + 1) (by omega)
    have c1 := fun hp b c rd => app_list (h := hp) (b := b) (c := c) (k := 2) (by' := 16) (l := i) (cs := ((List.range i).map (madD g)).flatMap spG) (new := spG (madD g i)) (rd := rd) (by rw [flat_len (k := 2) (fun _ => rfl)]; simp) (by omega) (by omega) rfl
    simp only [spB] at this ⊢
    rw [List.range_succ, List.map_append, List.map_cons, List.map_nil, List.flatMap_append, List.flatMap_cons, List.flatMap_nil, List.append_nil] at this
    generalize (List.range (min n 5)).map (madD g) = F at *
    generalize ((List.range i).map (madD g)).flatMap spG = G at *
    rw [show spG (madD g i) = [iv (((g i).1 : Int) % 14), iv (((g i).1 : Int) % 14 + ((g i).2 : Int) % 6)] from rfl] at this c1
    generalize g i = y at *
    obtain ⟨y0, y1⟩ := y
    simp only [cast1] at this
    simp only [] at c1 p1 p2 g1 g2
    rw [lpB_eq]
    simp (maxSteps := 1000000) (disch := first | omega | decide | assumption | simp [scal]) [lenA_sl lk_47, o_indexAddrS es_47, o_indexAddrA ea_60, loadA_eq ia_5, o_convI cv_5_3, za_55, o_build za_55 pl_55, o_indexAddrS es_22, ze_22, o_buildSlice es_22 ze_22 (by decide) ba_22_1, ap_22, builtin_append ni_22, lenA_sl lk_22, o_indexAddrS es_24, ze_24, o_buildSlice es_24 ze_24 (by decide) ba_24_2, want_some q35_11g4, e1, e3, p1, p2, tm14, tm6, append_some ap_22, srcCells, c1, this]
variable (b : Nat) {h : List Blk} (hb : h[b]? = some (.cells cs 2 true own))
include hb
theorem k35 (hc : WeC cs off n g) : callH LL 35 [sl b off n c] h = some ⟨sl h.length 0 (madR g n).length (madR g n).length, h ++ [spB (madR g n)], [b], []⟩ := by
  refine callN_1 rfl hb noIdB_flat (args' := [sl 0 off n c]) (by simp [renV, dep, optAll, idx, nbeq]) (v := sl 1 0 (madR g n).length (madR g n).length) (news := [spB (madR g n)]) (go (by decide) ?_) (by intro blk hb; simp only [List.mem_singleton] at hb; subst hb; exact noIdB_flat) (by simp [renV, dep])
  have this := l35 off n c (own := own) hc (min n 5) 0 (by omega)
  simp only [spB, List.range_zero, List.map_nil, List.flatMap_nil, Int.natCast_zero] at this ⊢
  rw [run35 _ _ _ (by simp)]
  unfold madR
  by_cases h0 : n = 0
  · subst h0
    simp only [Nat.zero_min, List.range_zero, List.map_nil, List.flatMap_nil] at this
    have a := fun b0 b1 bx => k44 (b0 :: b1 :: .cells [iv 3, iv 4] 1 true true :: bx) 2 rfl
    simp (maxSteps := 1000000) (disch := first | omega | decide | assumption | simp [scal]) [lenA_sl lk_47, o_indexAddrS es_47, o_indexAddrA ea_60, loadA_eq ia_5, o_convI cv_5_3, za_55, o_build za_55 pl_55, o_indexAddrS es_22, ze_22, o_buildSlice es_22 ze_22 (by decide) ba_22_1, ap_22, builtin_append ni_22, lenA_sl lk_22, o_indexAddrS es_24, ze_24, o_buildSlice es_24 ze_24 (by decide) ba_24_2, want_some q35_11g4, this, a]
  · have hm : 0 < min n 5 := by omega
    have hm' : ¬ ((min n 5 : Nat) : Int) = 0 := by omega
    rw [if_neg h0]
    have hl : ((List.range (min n 5)).map (madD g)).length = min n 5 := by simp
    rw [hl]
    generalize (List.range (min n 5)).map (madD g) = F at *
    generalize min n 5 = M at *
    have h0' : ¬ M = 0 := by omega
    simp (maxSteps := 1000000) (disch := first | omega | decide | assumption | simp [scal]) [lenA_sl lk_47, o_indexAddrS es_47, o_indexAddrA ea_60, loadA_eq ia_5, o_convI cv_5_3, za_55, o_build za_55 pl_55, o_indexAddrS es_22, ze_22, o_buildSlice es_22 ze_22 (by decide) ba_22_1, ap_22, builtin_append ni_22, lenA_sl lk_22, o_indexAddrS es_24, ze_24, o_buildSlice es_24 ze_24 (by decide) ba_24_2, want_some q35_11g4, this, hm', h0']
end
end Go.Proofs.Ytfccmddkblbeoaa.rk
namespace Go.Proofs.Ytfccmddkblbeoaa.rk
open Go.GE
set_option linter.unusedVariables false
set_option linter.unusedSimpArgs false
set_option linter.unusedSectionVars false
set_option maxRecDepth 100000
set_option maxHeartbeats 4000000
attribute [local simp] runOps_nil runOps_cons runOpsF_nil runOpsF_cons fstS_some fstF_some opStep_eq want_none oStep_true oStep_false fin_pure fin_read fin_alloc fin_write storeB wrN cellV addWr o_move o_assign o_pick o_alloc o_box o_load o_store o_nilCheck o_bin o_un o_extract o_callV o_callB o_callI callV_f callV_y callV_fc o_makeFunc partsA Instr.fill builtin_len builtin_max2 bin_add bin_sub bin_mul bin_quo bin_rem bin_lss bin_leq bin_gtr bin_geq bin_eql bin_neq un_neg un_not bin_shr bin_shl wrap_u64_id opd opds optAll putO nbeq nblt constOk isC ops sub cl cr co bodyOf thenS_normal thenS_ret thenS_exit thenS_goto afterN_normal afterN_ret afterN_exit afterN_goto condS_true condS_false blockS_normal blockS_ret blockS_exit blockS_goto headS normS normK_eq fixS_nil fixS_cons fix1 fixV emptyB keepO_nil keepO_cons roundC_normal roundC_exit roundC_ret roundC_goto sweep_eq sweepD rnm pickR pickW rootsB ptrT renT ptrFn renFn ptrB_flat ptrB_non renB_flat renB_non plainS_some drawS_some fpsOk disj unord range' dropTo enumT undef wrap_i64_id Value.cells mkCells ptrTo scal cellsAt rdN endS_ret resultsA Option.bind_some tupV finish reachN dep ptrL_eq ptrL renL_eq renL ptrV_bool ptrV_int ptrV_string ptrV_nilFunc ptrV_nilIface ptrV_nilPtr ptrV_ptr ptrV_nilSl ptrV_sl ptrV_iface ptrV_agg ptrV_tuple ptrV_func renV_bool renV_int renV_string renV_nilFunc renV_nilIface renV_nilPtr renV_ptr renV_nilSl renV_sl renV_iface renV_agg renV_tuple renV_func gotoS_goto gotoS_normal gotoS_exit gotoS_ret skip_seq sliceE bnd bndHi intOf optOpd keepT_nil keepT_cons keepC_t keepC_f lk_nil lk_cons lkC_t lkC_f has_nil has_cons hasC_t hasC_f rep_nil rep_cons repC_t repC_f put_eq putC_t putC_f mem_nil mem_cons memC_t memC_f idx_nil idx_cons idxC_t idxC_f reach_nil reach_cons reachC_t reachC_f
attribute [local simp] n40_1s n40_3s n40_6s n40_11s n40_13s n40_14s n40_12s n40_10s n40_17s n40_16s n40_18s n40_15s n40_9s n40_8s n40_8g n40_7s n40_5s n40_21s n40_26s n40_28s n40_29s n40_27s n40_25s n40_33s n40_36s n40_38s n40_39s n40_37s n40_35s n40_41s n40_42s n40_40s n40_34s n40_32s n40_31s n40_43s n40_30s n40_24s n40_23s n40_23g n40_22s n40_20s n40_45s n40_46s n40_44s n40_19s n40_4s n40_2s n40_0s Try.f40
/-- numbers as cells -/
def nm (L : List Nat) : List Value := L.map fun (x : Nat) => iv x
theorem nm_len {L : List Nat} : (nm L).length = L.length := by simp [nm]
theorem nm_app {L M : List Nat} : nm (L ++ M) = nm L ++ nm M := by simp [nm]
theorem nm_one {x : Nat} : nm [x] = [iv x] := rfl
theorem nm_nil : nm [] = [] := rfl
theorem nm_take {L : List Nat} {i : Nat} : (nm L).take i = nm (L.take i) := by simp [nm]
theorem nm_drop {L : List Nat} {i : Nat} : (nm L).drop i = nm (L.drop i) := by simp [nm]
theorem nm_all {L : List Nat} : (nm L).all cellV = true := by
  rw [List.all_eq_true]
  intro v hv
  obtain ⟨x, _, rfl⟩ := List.mem_map.1 hv
  rfl
theorem nm_get {L : List Nat} {i : Nat} (h : i < L.length) : (nm L)[i]? = some (iv (L.getD i 0)) := by simp [nm, h]
def ntAt (L : List Nat) (i : Nat) : Int := (L.getD i 0 : Nat)
theorem nm_C (L : List Nat) : InC (nm L) 0 L.length (ntAt L) := by
  intro i hi
  rw [Nat.zero_add]
  exact nm_get hi
abbrev nB (L : List Nat) : Blk := .cells (nm L) 1 true true
/-- cells of bytes -/
def ByC (cs : List Value) (off m : Nat) (g : Nat → Nat) : Prop := ∀ i, i < m → cs[off + i]? = some (uv (g i)) ∧ g i < 256
def pckI (g : Nat → Nat) (m k len : Nat) : Nat := if k < m then g k % len else 0
/-- what 'shuffled' draws from a list -/
def shuL (g : Nat → Nat) (m : Nat) : Nat → Nat → List Nat → List Nat
  | 0, _, _ => []
  | q + 1, k, L => L.getD (pckI g m k L.length) 0 :: shuL g m q (k + 1) (L.eraseIdx (pckI g m k L.length))
theorem shu_len {g : Nat → Nat} {m : Nat} : ∀ {q k : Nat} {L : List Nat}, (shuL g m q k L).length = q := by
  intro q
  induction q with
  | zero => intro k L; rfl
  | succ q ih => intro k L; simp [shuL, ih]
theorem pck_lt {g : Nat → Nat} {m k len : Nat} (h : 0 < len) : pckI g m k len < len := by
  unfold pckI
  split
  · exact Nat.mod_lt _ h
  · exact h
theorem shu_perm {g : Nat → Nat} {m : Nat} : ∀ {q k : Nat} {L : List Nat}, L.length = q → (shuL g m q k L).Perm L := by
  intro q
  induction q with
  | zero => intro k L h; rw [List.eq_nil_of_length_eq_zero h]; exact List.Perm.refl _
  | succ q ih =>
    intro k L h
    have hi := pck_lt (g := g) (m := m) (k := k) (len := L.length) (by omega)
    unfold shuL
    generalize pckI g m k L.length = i at *
    have h1 := ih (k := k + 1) (L := L.eraseIdx i) (by rw [List.length_eraseIdx_of_lt hi]; omega)
    have h2 : L.getD i 0 = L[i] := by simp [hi]
    rw [h2]
    refine (h1.cons _).trans ?_
    rw [List.eraseIdx_eq_take_drop_succ]
    have h3 : L = L.take i ++ L[i] :: L.drop (i + 1) := by rw [List.getElem_cons_drop, List.take_append_drop]
    conv => rhs; rw [h3]
    exact List.perm_middle.symm
section
variable (off m c : Nat) {cs : List Value} {own : Bool} {g : Nat → Nat}
theorem l40a (n : Nat) (hn : n ≤ 5) : ∀ (q i : Nat), i + q = n →
    lpB Try.prog LL ⟨40, 54, 1, none⟩ n40_8 n40_9 ⟨[(0, iv n), (1, sl 0 off m c), (5, sl 1 0 i i), (6, sl 2 0 0 0), (7, iv i)], [.cells cs 1 true own, nB (List.range i), nB []], []⟩ =
      some (.exit 0, ⟨[(1, sl 0 off m c), (5, sl 1 0 n n), (6, sl 2 0 0 0)], [.cells cs 1 true own, nB (List.range n), nB []], []⟩) := by
  intro q
  induction q with
  | zero =>
    intro i hi
    obtain rfl : i = n := by omega
    simp only [nB]
    generalize nm (List.range i) = F at *
    rw [lpB_eq]
    simp (maxSteps := 1000000) (disch := first | omega | decide | assumption | simp [scal]) [o_indexAddrS es_24, ze_24, o_buildSlice es_24 ze_24 (by decide) ba_24_1, ap_24, builtin_append ni_24, lenA_sl lk_24, lenA_sl lk_53, o_indexAddrS es_53, loadA_eq ia_5, o_convI cv_5_3, loadA_eq ia_3, o_buildSlice es_24 ze_24 (by decide) ba_24_0, o_sliceS sl_24]
  | succ q ih =>
    intro i hi
    have e1 : (i : Int) < n := by omega
    have this := ih (i + 1) (by omega)
    have c1 := fun hp b c rd => app_list (h := hp) (b := b) (c := c) (k := 1) (by' := 8) (l := i) (cs := nm (List.range i)) (new := [iv i]) (rd := rd) (by rw [nm_len]; simp) (by omega) (by omega) rfl
    simp only [nB] at this ⊢
    rw [List.range_succ, nm_app, nm_one] at this
    generalize nm (List.range n) = F at *
    generalize nm (List.range i) = G at *
    simp only [cast1] at this
    rw [lpB_eq]
    simp (maxSteps := 1000000) (disch := first | omega | decide | assumption | simp [scal]) [o_indexAddrS es_24, ze_24, o_buildSlice es_24 ze_24 (by decide) ba_24_1, ap_24, builtin_append ni_24, lenA_sl lk_24, lenA_sl lk_53, o_indexAddrS es_53, loadA_eq ia_5, o_convI cv_5_3, loadA_eq ia_3, o_buildSlice es_24 ze_24 (by decide) ba_24_0, o_sliceS sl_24, e1, append_some ap_24, srcCells, c1, this]
theorem l40b (hc : ByC cs off m g) : ∀ (q k : Nat) (L O : List Nat), L.length = q → O.length + q ≤ 5 → k + q ≤ 5 →
    lpB Try.prog LL ⟨40, 54, 1, none⟩ n40_23 n40_24 ⟨[(1, sl 0 off m c), (5, sl 1 0 L.length L.length), (6, sl 2 0 O.length O.length), (8, iv k)], [.cells cs 1 true own, nB L, nB O], []⟩ =
      some (.exit 2, ⟨[(6, sl 1 0 (O ++ shuL g m q k L).length (O ++ shuL g m q k L).length)], [.cells cs 1 true own, nB (O ++ shuL g m q k L)], []⟩) := by
  intro q
  induction q with
  | zero =>
    intro k L O hL hO hk
    obtain rfl : L = [] := List.eq_nil_of_length_eq_zero hL
    simp only [shuL, List.append_nil, nB]
    generalize nm O = F at *
    rw [lpB_eq]
    simp (maxSteps := 1000000) (disch := first | omega | decide | assumption | simp [scal]) [o_indexAddrS es_24, ze_24, o_buildSlice es_24 ze_24 (by decide) ba_24_1, ap_24, builtin_append ni_24, lenA_sl lk_24, lenA_sl lk_53, o_indexAddrS es_53, loadA_eq ia_5, o_convI cv_5_3, loadA_eq ia_3, o_buildSlice es_24 ze_24 (by decide) ba_24_0, o_sliceS sl_24]
  | succ q ih =>
    intro k L O hL hO hk
    have hi := pck_lt (g := g) (m := m) (k := k) (len := L.length) (by omega)
    unfold shuL
    obtain ⟨i, hpi⟩ : ∃ i, pckI g m k L.length = i := ⟨_, rfl⟩
    rw [hpi] at hi ⊢
    have this := ih (k + 1) (L.eraseIdx i) (O ++ [L.getD i 0]) (by rw [List.length_eraseIdx_of_lt hi]; omega) (by simp; omega) (by omega)
    have p1 := nm_get hi
    have c1 : ∀ (hp : List Blk) (b c : Nat) (y0 y1 y2 : Blk) (bx : List Blk), appS hp 1 8 b 0 O.length c (some (.cells (nm O) 1 true true)) (srcCells (y0 :: y1 :: y2 :: .cells [iv (L.getD i 0)] 1 true true :: bx) 1 (.slice (some ⟨3, 0, none⟩) 1 1)) =
        some ⟨.slice (some ⟨hp.length, 0, none⟩) (O.length + 1) (O.length + 1), hp.set b .dead ++ [.cells (nm O ++ [iv (L.getD i 0)]) 1 true true], [b, 3], [b]⟩ := fun hp b c y0 y1 y2 bx => by
      exact app_src (h := hp) (h' := y0 :: y1 :: y2 :: .cells [iv (L.getD i 0)] 1 true true :: bx) (b := b) (c := c) (k := 1) (by' := 8) (l := O.length) (b2 := 3) (o2 := 0) (n := 1) (c2 := 1) (cs := nm O) (cs2 := [iv (L.getD i 0)]) (by rw [nm_len]; simp) rfl (by simp) (by omega) (by omega) (by omega) rfl
    have s2 : ∀ (hp : List Blk) (b c : Nat) (y0 : Blk) (bx : List Blk), 0 < i → appS hp 1 8 b 0 0 c (some (.cells [] 1 true true)) (srcCells (y0 :: .cells (nm L) 1 true true :: bx) 1 (.slice (some ⟨1, 0, none⟩) i L.length)) =
        some ⟨.slice (some ⟨hp.length, 0, none⟩) i i, hp.set b .dead ++ [.cells (nm (L.take i)) 1 true true], [b, 1], [b]⟩ := fun hp b c y0 bx h0 => by
      have := app_src (h := hp) (h' := y0 :: .cells (nm L) 1 true true :: bx) (b := b) (c := c) (k := 1) (by' := 8) (l := 0) (b2 := 1) (o2 := 0) (n := i) (c2 := L.length) (cs := []) (cs2 := nm L) rfl rfl (by rw [nm_len]; omega) h0 (by omega) (by omega) nm_all
      rw [List.drop_zero, List.nil_append, Nat.zero_add, Nat.mul_one, nm_take] at this
      exact this
    have s3 : ∀ (hp : List Blk) (b c : Nat) (y0 : Blk) (bx : List Blk) (B : List Nat), B.length ≤ 5 → i + 1 < L.length → appS hp 1 8 b 0 B.length c (some (.cells (nm B) 1 true true)) (srcCells (y0 :: .cells (nm L) 1 true true :: bx) 1 (.slice (some ⟨1, i + 1, none⟩) (L.length - (i + 1)) (L.length - (i + 1)))) =
        some ⟨.slice (some ⟨hp.length, 0, none⟩) (B ++ L.drop (i + 1)).length (B ++ L.drop (i + 1)).length, hp.set b .dead ++ [.cells (nm (B ++ L.drop (i + 1))) 1 true true], [b, 1], [b]⟩ := fun hp b c y0 bx B hB h0 => by
      have := app_src (h := hp) (h' := y0 :: .cells (nm L) 1 true true :: bx) (b := b) (c := c) (k := 1) (by' := 8) (l := B.length) (b2 := 1) (o2 := i + 1) (n := L.length - (i + 1)) (c2 := L.length - (i + 1)) (cs := nm B) (cs2 := nm L) (by rw [nm_len]; simp) rfl (by rw [nm_len]; omega) (by omega) (by omega) (by omega) nm_all
      rw [nm_drop, List.take_of_length_le (by rw [nm_len, List.length_drop]; omega)] at this
      rw [this, List.length_append, List.length_drop, nm_app]
    have lt : (L.take i).length = i := by rw [List.length_take]; omega
    have hL5 : L.length ≤ 5 := by omega
    have b1 : 0 ≤ (i : Int) + 1 := by omega
    have b2 : (i : Int) + 1 ≤ (L.length : Int) := by omega
    have hi0 : i ≤ L.length := by omega
    have hpos : (0 : Int) < L.length := by omega
    have hpos' : 0 < L.length := by omega
    rw [List.eraseIdx_eq_take_drop_succ, List.append_assoc, List.singleton_append] at this
    have lz : ∀ x : Nat, (O ++ [x]).length = O.length + 1 := fun x => by simp
    rw [lz, nB, nB, nB, nm_app (L := O), nm_one] at this
    rw [nB, nB, nB, List.eraseIdx_eq_take_drop_succ]
    clear lz
    simp only [cast1] at this
    generalize hx : L.getD i 0 = x at *
    by_cases w : k < m
    · have w' : (k : Int) < m := by omega
      obtain ⟨w1, w2⟩ := hc k w
      unfold pckI at hpi
      rw [if_pos w] at hpi
      have e1 : ((g k : Nat) : Int).tmod (L.length : Int) = (i : Int) := by rw [Int.tmod_eq_emod_of_nonneg (by omega)]; omega
      have e2 : (L.length : Int) ≠ 0 := by omega
      clear hpi hc ih
      generalize g k = gk at *
      by_cases g0 : 0 < i
      · have s2 := fun hp b c y0 bx => s2 hp b c y0 bx g0
        by_cases g1 : i + 1 < L.length
        · have s3 := fun hp b c y0 bx => s3 hp b c y0 bx (L.take i) (by omega) g1
          rw [lt] at s3
          generalize shuL g m q (k + 1) (L.take i ++ L.drop (i + 1)) = R at *
          generalize L.take i ++ L.drop (i + 1) = D at *
          generalize nm (L.take i) = D1 at *
          generalize nm D = D2 at *
          generalize nm (O ++ x :: R) = F at *
          generalize (O ++ x :: R).length = Fn at *
          generalize nm L = M at *
          rw [lpB_eq]
          simp (maxSteps := 1000000) (disch := first | omega | decide | assumption | simp [scal]) [o_indexAddrS es_24, ze_24, o_buildSlice es_24 ze_24 (by decide) ba_24_1, ap_24, builtin_append ni_24, lenA_sl lk_24, lenA_sl lk_53, o_indexAddrS es_53, loadA_eq ia_5, o_convI cv_5_3, loadA_eq ia_3, o_buildSlice es_24 ze_24 (by decide) ba_24_0, o_sliceS sl_24, hpos, hpos', w, w', w1, e1, e2, p1, hi, hi0, b1, b2, c1, s2, s3, append_some ap_24, this]
        · have e0 : L.length - (i + 1) = 0 := by omega
          rw [List.drop_of_length_le (show L.length ≤ i + 1 by omega), List.append_nil, lt] at this
          rw [List.drop_of_length_le (show L.length ≤ i + 1 by omega), List.append_nil]
          generalize shuL g m q (k + 1) (L.take i) = R at *
          generalize nm (L.take i) = D1 at *
          generalize nm (O ++ x :: R) = F at *
          generalize (O ++ x :: R).length = Fn at *
          generalize nm L = M at *
          rw [lpB_eq]
          simp (maxSteps := 1000000) (disch := first | omega | decide | assumption | simp [scal]) [o_indexAddrS es_24, ze_24, o_buildSlice es_24 ze_24 (by decide) ba_24_1, ap_24, builtin_append ni_24, lenA_sl lk_24, lenA_sl lk_53, o_indexAddrS es_53, loadA_eq ia_5, o_convI cv_5_3, loadA_eq ia_3, o_buildSlice es_24 ze_24 (by decide) ba_24_0, o_sliceS sl_24, hpos, hpos', w, w', w1, e1, e2, p1, hi, hi0, b1, b2, c1, s2, e0, app_src0, append_some ap_24, this]
      · obtain rfl : i = 0 := by omega
        have b3 : (1 : Int) ≤ L.length := by omega
        by_cases g1 : 0 + 1 < L.length
        · have s3 := fun hp b c y0 bx => s3 hp b c y0 bx [] (by simp) g1
          simp only [List.take_zero, List.nil_append, List.length_nil, Nat.zero_add, nm_nil] at s3 this p1 ⊢
          generalize shuL g m q (k + 1) (L.drop 1) = R at *
          generalize L.drop 1 = D at *
          generalize nm D = D2 at *
          generalize nm (O ++ x :: R) = F at *
          generalize (O ++ x :: R).length = Fn at *
          generalize nm L = M at *
          rw [lpB_eq]
          simp (maxSteps := 1000000) (disch := first | omega | decide | assumption | simp [scal]) [o_indexAddrS es_24, ze_24, o_buildSlice es_24 ze_24 (by decide) ba_24_1, ap_24, builtin_append ni_24, lenA_sl lk_24, lenA_sl lk_53, o_indexAddrS es_53, loadA_eq ia_5, o_convI cv_5_3, loadA_eq ia_3, o_buildSlice es_24 ze_24 (by decide) ba_24_0, o_sliceS sl_24, hpos, hpos', w, w', w1, e1, e2, p1, b3, c1, s3, app_src0, append_some ap_24, this]
        · have e0 : L.length - 1 = 0 := by omega
          have e0' : L.length = 1 := by omega
          rw [List.drop_of_length_le (show L.length ≤ 0 + 1 by omega)] at this
          rw [List.drop_of_length_le (show L.length ≤ 0 + 1 by omega)]
          simp only [List.take_zero, List.nil_append, List.length_nil, Nat.zero_add, nm_nil] at this p1 ⊢
          generalize shuL g m q (k + 1) [] = R at *
          generalize nm (O ++ x :: R) = F at *
          generalize (O ++ x :: R).length = Fn at *
          generalize nm L = M at *
          rw [lpB_eq]
          simp (maxSteps := 1000000) (disch := first | omega | decide | assumption | simp [scal]) [o_indexAddrS es_24, ze_24, o_buildSlice es_24 ze_24 (by decide) ba_24_1, ap_24, builtin_append ni_24, lenA_sl lk_24, lenA_sl lk_53, o_indexAddrS es_53, loadA_eq ia_5, o_convI cv_5_3, loadA_eq ia_3, o_buildSlice es_24 ze_24 (by decide) ba_24_0, o_sliceS sl_24, hpos, hpos', w, w', w1, e1, e2, p1, b3, c1, e0, app_src0, append_some ap_24, this]
    · have w' : ¬ (k : Int) < m := by omega
      unfold pckI at hpi
      rw [if_neg w] at hpi
      clear hc ih
      obtain rfl : i = 0 := by omega
      have b3 : (1 : Int) ≤ L.length := by omega
      by_cases g1 : 0 + 1 < L.length
      · have s3 := fun hp b c y0 bx => s3 hp b c y0 bx [] (by simp) g1
        simp only [List.take_zero, List.nil_append, List.length_nil, Nat.zero_add, nm_nil] at s3 this p1 ⊢
        generalize shuL g m q (k + 1) (L.drop 1) = R at *
        generalize L.drop 1 = D at *
        generalize nm D = D2 at *
        generalize nm (O ++ x :: R) = F at *
        generalize (O ++ x :: R).length = Fn at *
        generalize nm L = M at *
        rw [lpB_eq]
        simp (maxSteps := 1000000) (disch := first | omega | decide | assumption | simp [scal]) [o_indexAddrS es_24, ze_24, o_buildSlice es_24 ze_24 (by decide) ba_24_1, ap_24, builtin_append ni_24, lenA_sl lk_24, lenA_sl lk_53, o_indexAddrS es_53, loadA_eq ia_5, o_convI cv_5_3, loadA_eq ia_3, o_buildSlice es_24 ze_24 (by decide) ba_24_0, o_sliceS sl_24, hpos, hpos', w, w', p1, b3, c1, s3, app_src0, append_some ap_24, this]
      · have e0 : L.length - 1 = 0 := by omega
        have e0' : L.length = 1 := by omega
        rw [List.drop_of_length_le (show L.length ≤ 0 + 1 by omega)] at this
        rw [List.drop_of_length_le (show L.length ≤ 0 + 1 by omega)]
        simp only [List.take_zero, List.nil_append, List.length_nil, Nat.zero_add, nm_nil] at this p1 ⊢
        generalize shuL g m q (k + 1) [] = R at *
        generalize nm (O ++ x :: R) = F at *
        generalize (O ++ x :: R).length = Fn at *
        generalize nm L = M at *
        rw [lpB_eq]
        simp (maxSteps := 1000000) (disch := first | omega | decide | assumption | simp [scal]) [o_indexAddrS es_24, ze_24, o_buildSlice es_24 ze_24 (by decide) ba_24_1, ap_24, builtin_append ni_24, lenA_sl lk_24, lenA_sl lk_53, o_indexAddrS es_53, loadA_eq ia_5, o_convI cv_5_3, loadA_eq ia_3, o_buildSlice es_24 ze_24 (by decide) ba_24_0, o_sliceS sl_24, hpos, hpos', w, w', p1, b3, c1, e0, app_src0, append_some ap_24, this]
end
end Go.Proofs.Ytfccmddkblbeoaa.rk
namespace Go.Proofs.Ytfccmddkblbeoaa.rk
open Go.GE
set_option linter.unusedVariables false
set_option linter.unusedSimpArgs false
set_option linter.unusedSectionVars false
set_option maxRecDepth 100000
set_option maxHeartbeats 4000000
attribute [local simp] runOps_nil runOps_cons runOpsF_nil runOpsF_cons fstS_some fstF_some opStep_eq want_none oStep_true oStep_false fin_pure fin_read fin_alloc fin_write storeB wrN cellV addWr o_move o_assign o_pick o_alloc o_box o_load o_store o_nilCheck o_bin o_un o_extract o_callV o_callB o_callI callV_f callV_y callV_fc o_makeFunc partsA Instr.fill builtin_len builtin_max2 bin_add bin_sub bin_mul bin_quo bin_rem bin_lss bin_leq bin_gtr bin_geq bin_eql bin_neq un_neg un_not bin_shr bin_shl wrap_u64_id opd opds optAll putO nbeq nblt constOk isC ops sub cl cr co bodyOf thenS_normal thenS_ret thenS_exit thenS_goto afterN_normal afterN_ret afterN_exit afterN_goto condS_true condS_false blockS_normal blockS_ret blockS_exit blockS_goto headS normS normK_eq fixS_nil fixS_cons fix1 fixV emptyB keepO_nil keepO_cons roundC_normal roundC_exit roundC_ret roundC_goto sweep_eq sweepD rnm pickR pickW rootsB ptrT renT ptrFn renFn ptrB_flat ptrB_non renB_flat renB_non plainS_some drawS_some fpsOk disj unord range' dropTo enumT undef wrap_i64_id Value.cells mkCells ptrTo scal cellsAt rdN endS_ret resultsA Option.bind_some tupV finish reachN dep ptrL_eq ptrL renL_eq renL ptrV_bool ptrV_int ptrV_string ptrV_nilFunc ptrV_nilIface ptrV_nilPtr ptrV_ptr ptrV_nilSl ptrV_sl ptrV_iface ptrV_agg ptrV_tuple ptrV_func renV_bool renV_int renV_string renV_nilFunc renV_nilIface renV_nilPtr renV_ptr renV_nilSl renV_sl renV_iface renV_agg renV_tuple renV_func gotoS_goto gotoS_normal gotoS_exit gotoS_ret skip_seq sliceE bnd bndHi intOf optOpd keepT_nil keepT_cons keepC_t keepC_f lk_nil lk_cons lkC_t lkC_f has_nil has_cons hasC_t hasC_f rep_nil rep_cons repC_t repC_f put_eq putC_t putC_f mem_nil mem_cons memC_t memC_f idx_nil idx_cons idxC_t idxC_f reach_nil reach_cons reachC_t reachC_f
attribute [local simp] n40_1s n40_3s n40_6s n40_11s n40_13s n40_14s n40_12s n40_10s n40_17s n40_16s n40_18s n40_15s n40_9s n40_8s n40_8g n40_7s n40_5s n40_21s n40_26s n40_28s n40_29s n40_27s n40_25s n40_33s n40_36s n40_38s n40_39s n40_37s n40_35s n40_41s n40_42s n40_40s n40_34s n40_32s n40_31s n40_43s n40_30s n40_24s n40_23s n40_23g n40_22s n40_20s n40_45s n40_46s n40_44s n40_19s n40_4s n40_2s n40_0s Try.f40 n51_1s n51_3s n51_6s n51_10s n51_13s n51_14s n51_12s n51_18s n51_20s n51_22s n51_25s n51_26s n51_24s n51_27s n51_23s n51_21s n51_19s n51_17s n51_16s n51_28s n51_15s n51_11s n51_9s n51_8s n51_8g n51_7s n51_5s n51_30s n51_31s n51_29s n51_4s n51_2s n51_0s Try.f51
def shuS (g : Nat → Nat) (m n : Nat) : List Nat := shuL g m n 0 (List.range n)
theorem shuS_len {g : Nat → Nat} {m n : Nat} : (shuS g m n).length = n := shu_len
theorem shuS_perm {g : Nat → Nat} {m n : Nat} : (shuS g m n).Perm (List.range n) := shu_perm (by simp)
section
variable (b off m c : Nat) {cs : List Value} {own : Bool} {g : Nat → Nat} {h : List Blk} (hb : h[b]? = some (.cells cs 1 true own)) (hc : ByC cs off m g)
include hb hc
theorem k40 (n : Nat) (hn : n ≤ 5) : callH LL 40 [iv n, sl b off m c] h = some ⟨sl h.length 0 n n, h ++ [nB (shuS g m n)], [b], []⟩ := by
  refine callN_1 rfl hb noIdB_flat (args' := [iv n, sl 0 off m c]) (by simp [renV, dep, optAll, idx, nbeq]) (v := sl 1 0 n n) (news := [nB (shuS g m n)]) (go (by decide) ?_) (by intro blk hb; simp only [List.mem_singleton] at hb; subst hb; exact noIdB_flat) (by simp [renV, dep])
  have h1 := l40a off m c (cs := cs) (own := own) n hn n 0 (by omega)
  have h2 := l40b off m c (own := own) hc n 0 (List.range n) [] (by simp) (by simp; omega) (by omega)
  rw [List.nil_append, List.length_range, shu_len] at h2
  simp only [nB, List.range_zero, nm_nil, Int.natCast_zero, List.length_nil] at h1 h2 ⊢
  unfold shuS
  generalize nm (shuL g m n 0 (List.range n)) = F at *
  generalize nm (List.range n) = G at *
  rw [run40 _ _ _ (by simp)]
  simp (maxSteps := 1000000) (disch := first | omega | decide | assumption | simp [scal]) [o_indexAddrS es_24, ze_24, o_buildSlice es_24 ze_24 (by decide) ba_24_1, ap_24, builtin_append ni_24, lenA_sl lk_24, lenA_sl lk_53, o_indexAddrS es_53, loadA_eq ia_5, o_convI cv_5_3, loadA_eq ia_3, o_buildSlice es_24 ze_24 (by decide) ba_24_0, o_sliceS sl_24, h1, h2]
end
def mx (a b : Int) : Int := if a < b then b else a
/-- whether ranges can rise along an order, from the i-th day on -/
def risL (l : Nat → Int × Int) (o : Nat → Int) : Nat → Nat → Int → Bool
  | 0, _, _ => true
  | k + 1, i, last => if (l (o i).toNat).2 < mx last (l (o i).toNat).1 then false else risL l o k (i + 1) (mx last (l (o i).toNat).1)
section
variable (off n c off2 m c2 : Nat) (cs cs2 : List Value) (own own2 : Bool) (l : Nat → Int × Int) (o : Nat → Int)
  (hc : SpC cs off n l) (hc2 : InC cs2 off2 m o) (hm : m ≤ 60) (ho : ∀ j, j < m → 0 ≤ o j ∧ o j < n)
include hc hc2 hm ho
theorem l51 : ∀ (k i : Nat) (last : Int), i + k = m →
    lpB Try.prog LL ⟨51, 29, 2, none⟩ n51_8 n51_9 ⟨[(0, sl 0 off n c), (5, iv last), (8, sl 1 off2 m c2), (9, iv m), (10, iv i)], [.cells cs 2 true own, .cells cs2 1 true own2], []⟩ =
      if risL l o k i last = true then some (.exit 0, ⟨[], [.cells cs 2 true own, .cells cs2 1 true own2], []⟩) else some (.ret, ⟨[(4, .bool false)], [.cells cs 2 true own, .cells cs2 1 true own2], []⟩) := by
  intro k
  induction k with
  | zero =>
    intro i last hi
    obtain rfl : i = m := by omega
    rw [lpB_eq]
    simp (maxSteps := 1000000) (disch := first | omega | decide | assumption | simp [scal]) [lenA_sl lk_24, o_indexAddrS es_24, loadA_eq ia_3, o_indexAddrS es_22, o_fieldAddr fa_55_0 (by decide), o_fieldAddr fa_55_1 (by decide), risL]
  | succ k ih =>
    intro i last hi
    have e1 : i < m := by omega
    have e1' : (i : Int) < m := by omega
    have e3 := hc2 i e1
    obtain ⟨x, hx⟩ : ∃ x : Nat, o i = x := ⟨(o i).toNat, by have := ho i e1; omega⟩
    have hxn : x < n := by have := ho i e1; omega
    obtain ⟨e4, e5⟩ := hc x hxn
    unfold risL
    rw [hx] at e3 ⊢
    rw [Int.toNat_natCast]
    have this := ih (i + 1) (mx last (l x).1) (by omega)
    simp only [cast1] at this
    generalize l x = y at *
    obtain ⟨lo, hi⟩ := y
    simp only [] at e4 e5 this ⊢
    rw [lpB_eq]
    unfold mx at this ⊢
    by_cases h1 : last < lo
    · rw [if_pos h1] at this ⊢
      by_cases h2 : hi < lo
      · simp (maxSteps := 1000000) (disch := first | omega | decide | assumption | simp [scal]) [lenA_sl lk_24, o_indexAddrS es_24, loadA_eq ia_3, o_indexAddrS es_22, o_fieldAddr fa_55_0 (by decide), o_fieldAddr fa_55_1 (by decide), e1, e1', e3, e4, e5, hxn, h1, h2]
      · simp (maxSteps := 1000000) (disch := first | omega | decide | assumption | simp [scal]) [lenA_sl lk_24, o_indexAddrS es_24, loadA_eq ia_3, o_indexAddrS es_22, o_fieldAddr fa_55_0 (by decide), o_fieldAddr fa_55_1 (by decide), e1, e1', e3, e4, e5, hxn, h1, h2, this]
    · rw [if_neg h1] at this ⊢
      by_cases h2 : hi < last
      · simp (maxSteps := 1000000) (disch := first | omega | decide | assumption | simp [scal]) [lenA_sl lk_24, o_indexAddrS es_24, loadA_eq ia_3, o_indexAddrS es_22, o_fieldAddr fa_55_0 (by decide), o_fieldAddr fa_55_1 (by decide), e1, e1', e3, e4, e5, hxn, h1, h2]
      · simp (maxSteps := 1000000) (disch := first | omega | decide | assumption | simp [scal]) [lenA_sl lk_24, o_indexAddrS es_24, loadA_eq ia_3, o_indexAddrS es_22, o_fieldAddr fa_55_0 (by decide), o_fieldAddr fa_55_1 (by decide), e1, e1', e3, e4, e5, hxn, h1, h2, this]
end
section
variable (b off n c b2 off2 m c2 : Nat) {cs cs2 : List Value} {own own2 : Bool} {l : Nat → Int × Int} {o : Nat → Int} {h : List Blk}
  (hb : h[b]? = some (.cells cs 2 true own)) (hb2 : h[b2]? = some (.cells cs2 1 true own2)) (hne : b ≠ b2) (hc : SpC cs off n l) (hc2 : InC cs2 off2 m o)
include hb hb2 hne hc hc2
theorem k51 (hm : m ≤ 60) (ho : ∀ j, j < m → 0 ≤ o j ∧ o j < n) : callH LL 51 [sl b off n c, sl b2 off2 m c2] h = some ⟨.bool (risL l o m 0 0), h, [b, b2], []⟩ := by
  refine callH_2 rfl hb hb2 hne noIdB_flat noIdB_flat (so_ren hne rfl) (go (by decide) ?_) fun _ => rfl
  rw [run51 _ _ _ (by simp)]
  have this := l51 off n c off2 m c2 cs cs2 own own2 l o hc hc2 hm ho m 0 0 (by omega)
  simp only [Int.natCast_zero] at this
  cases h1 : risL l o m 0 0
  · rw [h1, if_neg (by decide)] at this
    simp (maxSteps := 1000000) (disch := first | omega | decide | assumption | simp [scal]) [lenA_sl lk_24, o_indexAddrS es_24, loadA_eq ia_3, o_indexAddrS es_22, o_fieldAddr fa_55_0 (by decide), o_fieldAddr fa_55_1 (by decide), this]
  · rw [h1, if_pos rfl] at this
    simp (maxSteps := 1000000) (disch := first | omega | decide | assumption | simp [scal]) [lenA_sl lk_24, o_indexAddrS es_24, loadA_eq ia_3, o_indexAddrS es_22, o_fieldAddr fa_55_0 (by decide), o_fieldAddr fa_55_1 (by decide), this]
end
theorem ris_iff {l : Nat → Int × Int} {o : Nat → Int} : ∀ (k i : Nat) (last : Int), risL l o k i last = true ↔ (∀ j, i ≤ j → j < i + k → last ≤ (l (o j).toNat).2) ∧ ∀ j j', i ≤ j → j ≤ j' → j' < i + k → (l (o j).toNat).1 ≤ (l (o j').toNat).2 := by
  intro k
  induction k with
  | zero => intro i last; simp only [risL, true_iff]; exact ⟨fun j h1 h2 => by omega, fun j j' h1 h2 h3 => by omega⟩
  | succ k ih =>
    intro i last
    unfold risL
    have hmx : ∀ a b z : Int, mx a b ≤ z ↔ a ≤ z ∧ b ≤ z := by intro a b z; unfold mx; split <;> omega
    by_cases h : (l (o i).toNat).2 < mx last (l (o i).toNat).1
    · rw [if_pos h]
      simp only [Bool.false_eq_true, false_iff]
      rintro ⟨h1, h2⟩
      have a1 := h1 i (by omega) (by omega)
      have a2 := h2 i i (by omega) (by omega) (by omega)
      have := (hmx last (l (o i).toNat).1 (l (o i).toNat).2).2 ⟨a1, a2⟩
      omega
    · rw [if_neg h, ih]
      have h' := (hmx last (l (o i).toNat).1 (l (o i).toNat).2).1 (by omega)
      constructor
      · rintro ⟨h1, h2⟩
        refine ⟨fun j a1 a2 => ?_, fun j j' a1 a2 a3 => ?_⟩
        · by_cases hj : j = i
          · subst hj; exact h'.1
          · exact ((hmx _ _ _).1 (h1 j (by omega) (by omega))).1
        · by_cases hj : j = i
          · subst hj
            by_cases hj' : j' = j
            · subst hj'; exact h'.2
            · exact ((hmx _ _ _).1 (h1 j' (by omega) (by omega))).2
          · exact h2 j j' (by omega) a2 (by omega)
      · rintro ⟨h1, h2⟩
        exact ⟨fun j a1 a2 => (hmx _ _ _).2 ⟨h1 j (by omega) (by omega), h2 i j (by omega) (by omega) (by omega)⟩, fun j j' a1 a2 a3 => h2 j j' (by omega) a2 (by omega)⟩
theorem fltQ_iff {l : Nat → Int × Int} {o : Nat → Int} {p : Nat} : ∀ (k q : Nat), (fltQ l o p k q = none ∧ ∀ j, q ≤ j → j < q + k → quiet l (o j).toNat (o p).toNat = false) ∨ ∃ r, fltQ l o p k q = some r ∧ q ≤ r ∧ r < q + k ∧ quiet l (o r).toNat (o p).toNat = true ∧ ∀ j, q ≤ j → j < r → quiet l (o j).toNat (o p).toNat = false := by
  intro k
  induction k with
  | zero => intro q; exact .inl ⟨rfl, fun j h1 h2 => by omega⟩
  | succ k ih =>
    intro q
    unfold fltQ
    cases h : quiet l (o q).toNat (o p).toNat
    · rw [if_neg (by decide)]
      rcases ih (q + 1) with ⟨h1, h2⟩ | ⟨r, h1, h2, h3, h4, h5⟩
      · refine .inl ⟨h1, fun j a1 a2 => ?_⟩
        by_cases hj : j = q
        · subst hj; exact h
        · exact h2 j (by omega) (by omega)
      · refine .inr ⟨r, h1, by omega, by omega, h4, fun j a1 a2 => ?_⟩
        by_cases hj : j = q
        · subst hj; exact h
        · exact h5 j (by omega) (by omega)
    · rw [if_pos rfl]
      exact .inr ⟨q, rfl, by omega, by omega, h, fun j a1 a2 => by omega⟩
theorem fltP_iff {l : Nat → Int × Int} {o : Nat → Int} {m : Nat} : ∀ (k p : Nat), p + k = m → (fltP l o m k p = none ∧ ∀ i j, p ≤ i → i < j → j < m → quiet l (o j).toNat (o i).toNat = false) ∨
    ∃ r s, fltP l o m k p = some (r, s) ∧ p ≤ r ∧ r < s ∧ s < m ∧ quiet l (o s).toNat (o r).toNat = true ∧ ∀ i j, p ≤ i → i < j → j < m → (i < r ∨ i = r ∧ j < s) → quiet l (o j).toNat (o i).toNat = false := by
  intro k
  induction k with
  | zero => intro p hp; exact .inl ⟨rfl, fun i j h1 h2 h3 => by omega⟩
  | succ k ih =>
    intro p hp
    unfold fltP
    rcases fltQ_iff (l := l) (o := o) (p := p) (m - (p + 1)) (p + 1) with ⟨h1, h2⟩ | ⟨r, h1, h2, h3, h4, h5⟩
    · rw [h1]
      rcases ih (p + 1) (by omega) with ⟨g1, g2⟩ | ⟨r, s, g1, g2, g3, g4, g5, g6⟩
      · refine .inl ⟨g1, fun i j a1 a2 a3 => ?_⟩
        by_cases hi : i = p
        · subst hi; exact h2 j (by omega) (by omega)
        · exact g2 i j (by omega) a2 a3
      · refine .inr ⟨r, s, g1, by omega, g3, g4, g5, fun i j a1 a2 a3 a4 => ?_⟩
        by_cases hi : i = p
        · subst hi; exact h2 j (by omega) (by omega)
        · exact g6 i j (by omega) a2 a3 a4
    · rw [h1]
      refine .inr ⟨p, r, rfl, by omega, by omega, by omega, h4, fun i j a1 a2 a3 a4 => ?_⟩
      obtain rfl : i = p := by omega
      exact h5 j (by omega) (by omega)
/-- spans that make a month -/
def OkM (A : List (Int × Int)) : Prop := 1 ≤ A.length ∧ A.length ≤ 30 ∧ ∀ a ∈ A, 0 ≤ a.1 ∧ a.1 ≤ a.2 ∧ a.2 ≤ 100000
theorem madR_ok {g : Nat → Nat × Nat} {n : Nat} : 1 ≤ (madR g n).length ∧ (madR g n).length ≤ 5 ∧ ∀ a ∈ madR g n, 0 ≤ a.1 ∧ a.1 ≤ a.2 ∧ a.2 < 19 := by
  unfold madR
  split
  · simp
  · refine ⟨by simp; omega, by simp; omega, fun a ha => ?_⟩
    obtain ⟨i, _, rfl⟩ := List.mem_map.1 ha
    simp only [madD]
    omega
theorem OkM.at {A : List (Int × Int)} (H : OkM A) {i : Nat} (hi : i < A.length) : 0 ≤ (spAt A i).1 ∧ (spAt A i).1 ≤ (spAt A i).2 ∧ (spAt A i).2 ≤ 100000 := by
  have e : spAt A i = A[i] := by simp [spAt, hi]
  rw [e]
  exact H.2.2 _ (List.getElem_mem hi)
theorem OkM.chk {A : List (Int × Int)} (H : OkM A) : chkS (spAt A) A.length = 0 := by
  obtain ⟨h1, h2, h3⟩ := H
  unfold chkS
  rw [if_neg (by omega), if_neg (by omega), if_neg]
  have : anyB (spAt A) A.length 0 = false := any_iff.2 fun i hi => by
    have := OkM.at ⟨h1, h2, h3⟩ hi
    unfold bad
    simp only [Bool.or_eq_false_iff, Bool.not_eq_false', Bool.and_eq_true, decide_eq_true_eq, decide_eq_false_iff_not]
    omega
  rw [this]; decide
theorem madR_M {g : Nat → Nat × Nat} {n : Nat} : OkM (madR g n) := by
  obtain ⟨h1, h2, h3⟩ := madR_ok (g := g) (n := n)
  exact ⟨h1, by omega, fun a ha => by have := h3 a ha; omega⟩
/-- an order of all days -/
theorem perm_ord {O : List Nat} {n : Nat} (h : O.Perm (List.range n)) : ordL (ntAt O) n n 0 = 0 ∧ ∀ j, j < n → 0 ≤ ntAt O j ∧ ntAt O j < n := by
  have hl : O.length = n := by have := h.length_eq; simpa using this
  have hmem : ∀ j, j < n → O.getD j 0 < n := fun j hj => by
    have e : O.getD j 0 = O[j] := by simp [hl, hj]
    rw [e]
    have := h.mem_iff.1 (List.getElem_mem (l := O) (n := j) (by omega))
    simpa using this
  have hnd : O.Nodup := h.nodup_iff.2 List.nodup_range
  have key : ∀ k i, i + k = n → ordL (ntAt O) n k i = 0 := by
    intro k
    induction k with
    | zero => intro i _; rfl
    | succ k ih =>
      intro i hi
      unfold ordL
      have h1 := hmem i (by omega)
      rw [if_neg (by unfold ntAt; generalize O.getD i 0 = z at *; simp; omega), if_neg, ih (i + 1) (by omega)]
      rw [seen_iff]
      rintro ⟨p, a1, a2, a3⟩
      have e1 : O.getD p 0 = O[p] := by simp [show p < O.length by omega]
      have e2 : O.getD i 0 = O[i] := by simp [show i < O.length by omega]
      unfold ntAt at a3
      rw [e1, e2] at a3
      have := (List.getElem_inj (h₀ := show p < O.length by omega) (h₁ := show i < O.length by omega) hnd).1 (by omega)
      omega
  exact ⟨key n 0 (by omega), fun j hj => by have := hmem j hj; unfold ntAt; omega⟩
end Go.Proofs.Ytfccmddkblbeoaa.rk
namespace Go.Proofs.Ytfccmddkblbeoaa.rk
open Go.GE
set_option linter.unusedVariables false
set_option linter.unusedSimpArgs false
set_option linter.unusedSectionVars false
set_option maxRecDepth 100000
set_option maxHeartbeats 4000000
attribute [local simp] runOps_nil runOps_cons runOpsF_nil runOpsF_cons fstS_some fstF_some opStep_eq want_none oStep_true oStep_false fin_pure fin_read fin_alloc fin_write storeB wrN cellV addWr o_move o_assign o_pick o_alloc o_box o_load o_store o_nilCheck o_bin o_un o_extract o_callV o_callB o_callI callV_f callV_y callV_fc o_makeFunc partsA Instr.fill builtin_len builtin_max2 bin_add bin_sub bin_mul bin_quo bin_rem bin_lss bin_leq bin_gtr bin_geq bin_eql bin_neq un_neg un_not bin_shr bin_shl wrap_u64_id opd opds optAll putO nbeq nblt constOk isC ops sub cl cr co bodyOf thenS_normal thenS_ret thenS_exit thenS_goto afterN_normal afterN_ret afterN_exit afterN_goto condS_true condS_false blockS_normal blockS_ret blockS_exit blockS_goto headS normS normK_eq fixS_nil fixS_cons fix1 fixV emptyB keepO_nil keepO_cons roundC_normal roundC_exit roundC_ret roundC_goto sweep_eq sweepD rnm pickR pickW rootsB ptrT renT ptrFn renFn ptrB_flat ptrB_non renB_flat renB_non plainS_some drawS_some fpsOk disj unord range' dropTo enumT undef wrap_i64_id Value.cells mkCells ptrTo scal cellsAt rdN endS_ret resultsA Option.bind_some tupV finish reachN dep ptrL_eq ptrL renL_eq renL ptrV_bool ptrV_int ptrV_string ptrV_nilFunc ptrV_nilIface ptrV_nilPtr ptrV_ptr ptrV_nilSl ptrV_sl ptrV_iface ptrV_agg ptrV_tuple ptrV_func renV_bool renV_int renV_string renV_nilFunc renV_nilIface renV_nilPtr renV_ptr renV_nilSl renV_sl renV_iface renV_agg renV_tuple renV_func gotoS_goto gotoS_normal gotoS_exit gotoS_ret skip_seq sliceE bnd bndHi intOf optOpd keepT_nil keepT_cons keepC_t keepC_f lk_nil lk_cons lkC_t lkC_f has_nil has_cons hasC_t hasC_f rep_nil rep_cons repC_t repC_f put_eq putC_t putC_f mem_nil mem_cons memC_t memC_f idx_nil idx_cons idxC_t idxC_f reach_nil reach_cons reachC_t reachC_f
attribute [local simp] n13_1s n13_3s n13_5s n13_7s n13_9s n13_11s n13_13s n13_16s n13_19s n13_20s n13_18s n13_21s n13_17s n13_15s n13_24s n13_27s n13_28s n13_26s n13_29s n13_25s n13_23s n13_32s n13_35s n13_36s n13_34s n13_37s n13_33s n13_31s n13_40s n13_44s n13_47s n13_48s n13_46s n13_52s n13_54s n13_59s n13_61s n13_62s n13_60s n13_58s n13_66s n13_69s n13_70s n13_68s n13_71s n13_67s n13_65s n13_64s n13_72s n13_63s n13_57s n13_56s n13_56g n13_55s n13_53s n13_51s n13_50s n13_73s n13_49s n13_45s n13_43s n13_42s n13_42g n13_41s n13_39s n13_75s n13_76s n13_74s n13_38s n13_30s n13_22s n13_14s n13_12s n13_10s n13_8s n13_6s n13_4s n13_2s n13_0s Try.f13
theorem bneq4 {c : Bool} {a b : Bool} : binA Try.prog .neq 4 c (.bool a) (.bool b) = some (.bool !(a == b)) := by
  simp [binA, show Try.prog.underlying 4 = some .bool from by kernel_rfl]
/-- a month and an order of its days -/
structure MO (A : List (Int × Int)) (O : List Nat) (n : Nat) : Prop where
  ha : OkM A
  la : A.length = n
  lo : O.length = n
  n5 : n ≤ 5
  hp : O.Perm (List.range n)
theorem MO.lt {A : List (Int × Int)} {O : List Nat} {n : Nat} (S : MO A O n) {i : Nat} (hi : i < n) : O.getD i 0 < n := by
  have := ((perm_ord S.hp).2 i hi).2
  unfold ntAt at this
  omega
/-- what is loaded of an order and its month -/
theorem MO.ld {A : List (Int × Int)} {O : List Nat} {n : Nat} (S : MO A O n) {i : Nat} (hi : i < n) : (nm O)[i]? = some (iv (O.getD i 0)) ∧ (A.flatMap spG)[O.getD i 0 * 2]? = some (iv (spAt A (O.getD i 0)).1) ∧ (A.flatMap spG)[O.getD i 0 * 2 + 1]? = some (iv (spAt A (O.getD i 0)).2) := by
  have h := spAt_C A (O.getD i 0) (by rw [S.la]; exact S.lt hi)
  rw [Nat.zero_add] at h
  exact ⟨nm_get (by rw [S.lo]; exact hi), h⟩
/-- the j-th day of an order is surely quieter than the i-th -/
def qt (A : List (Int × Int)) (O : List Nat) (j i : Nat) : Bool := quiet (spAt A) (O.getD j 0) (O.getD i 0)
section
variable (K0 K1 : Blk) {A : List (Int × Int)} {O : List Nat} {n : Nat} (S : MO A O n) (r s : Nat) (hr : r ≤ n) (hs : s ≤ n) (hq : ∀ i j, i < j → j < n → (i < r ∨ i = r ∧ j < s) → qt A O j i = false)
include S hr hs hq
theorem l13i (i : Nat) (hi : i < n) : ∀ q k : Nat, k + q = n → i < k →
    lpB Try.prog LL ⟨13, 199, 2, none⟩ n13_56 n13_57 ⟨[(16, iv i), (17, iv k), (7, sl 2 0 n n), (8, sl 3 0 n n), (10, iv r), (11, iv s), (153, iv n), (154, iv i)], [K0, K1, spB A, nB O], []⟩ =
      some (.exit 2, ⟨[(7, sl 2 0 n n), (8, sl 3 0 n n), (10, iv r), (11, iv s), (153, iv n), (154, iv i)], [K0, K1, spB A, nB O], []⟩) := by
  have n5 := S.n5
  intro q
  induction q with
  | zero =>
    intro k hk hik
    obtain rfl : k = n := by omega
    simp only [spB, nB]
    rw [lpB_eq]
    simp (maxSteps := 1000000) (disch := first | omega | decide | assumption | simp [scal]) [lenA_sl lk_22, o_indexAddrA ea_60, loadA_eq ia_5, o_convI cv_5_3, o_indexAddrS es_24, loadA_eq ia_3, o_indexAddrS es_22, o_fieldAddr fa_55_1 (by decide), o_fieldAddr fa_55_0 (by decide), lenA_sl lk_24, want_some q13_13g3, want_some q13_16g8, want_some q13_16g10, want_some q13_27g2, want_some q13_27g6, want_some q13_27g10, want_some q13_27g16, want_some q13_32g2, want_some q13_32g8, want_some q13_32g12, want_some q13_32g17, want_some q13_32g23, want_some q13_32g42, want_some q13_66g3, want_some q13_66g7, want_some q13_66g13]
  | succ q ih =>
    intro k hk hik
    have e1 : k < n := by omega
    have e1' : (k : Int) < n := by omega
    have this := ih (k + 1) (by omega) (by omega)
    obtain ⟨p1, p2, p3⟩ := S.ld e1
    obtain ⟨q1, q2, q3⟩ := S.ld hi
    have y1 := S.lt e1
    have y2 := S.lt hi
    have hq := hq i k hik e1
    unfold qt quiet at hq
    simp only [spB, nB] at this ⊢
    simp only [cast1] at this
    clear ih
    generalize nm O = M at *
    generalize A.flatMap spG = N at *
    generalize O.getD k 0 = y at *
    generalize O.getD i 0 = x at *
    generalize (spAt A y) = u at *
    generalize (spAt A x) = v at *
    obtain ⟨u1, u2⟩ := u
    obtain ⟨v1, v2⟩ := v
    simp only [] at p2 p3 q2 q3 hq
    rw [lpB_eq]
    by_cases h1 : i < r
    · have h1' : (i : Int) < r := by omega
      have hq := of_decide_eq_false (hq (.inl h1))
      simp (maxSteps := 1000000) (disch := first | omega | decide | assumption | simp [scal]) [lenA_sl lk_22, o_indexAddrA ea_60, loadA_eq ia_5, o_convI cv_5_3, o_indexAddrS es_24, loadA_eq ia_3, o_indexAddrS es_22, o_fieldAddr fa_55_1 (by decide), o_fieldAddr fa_55_0 (by decide), lenA_sl lk_24, want_some q13_13g3, want_some q13_16g8, want_some q13_16g10, want_some q13_27g2, want_some q13_27g6, want_some q13_27g10, want_some q13_27g16, want_some q13_32g2, want_some q13_32g8, want_some q13_32g12, want_some q13_32g17, want_some q13_32g23, want_some q13_32g42, want_some q13_66g3, want_some q13_66g7, want_some q13_66g13, e1, e1', h1, h1', p1, p2, p3, q1, q2, q3, y1, y2, hi, hq, this]
    · have h1' : ¬ (i : Int) < r := by omega
      by_cases h2 : i = r
      · subst h2
        by_cases h3 : k < s
        · have h3' : (k : Int) < s := by omega
          have hq := of_decide_eq_false (hq (.inr ⟨rfl, h3⟩))
          simp (maxSteps := 1000000) (disch := first | omega | decide | assumption | simp [scal]) [lenA_sl lk_22, o_indexAddrA ea_60, loadA_eq ia_5, o_convI cv_5_3, o_indexAddrS es_24, loadA_eq ia_3, o_indexAddrS es_22, o_fieldAddr fa_55_1 (by decide), o_fieldAddr fa_55_0 (by decide), lenA_sl lk_24, want_some q13_13g3, want_some q13_16g8, want_some q13_16g10, want_some q13_27g2, want_some q13_27g6, want_some q13_27g10, want_some q13_27g16, want_some q13_32g2, want_some q13_32g8, want_some q13_32g12, want_some q13_32g17, want_some q13_32g23, want_some q13_32g42, want_some q13_66g3, want_some q13_66g7, want_some q13_66g13, e1, e1', h1, h1', h3, h3', p1, p2, p3, q1, q2, q3, y1, y2, hi, hq, this]
        · have h3' : ¬ (k : Int) < s := by omega
          simp (maxSteps := 1000000) (disch := first | omega | decide | assumption | simp [scal]) [lenA_sl lk_22, o_indexAddrA ea_60, loadA_eq ia_5, o_convI cv_5_3, o_indexAddrS es_24, loadA_eq ia_3, o_indexAddrS es_22, o_fieldAddr fa_55_1 (by decide), o_fieldAddr fa_55_0 (by decide), lenA_sl lk_24, want_some q13_13g3, want_some q13_16g8, want_some q13_16g10, want_some q13_27g2, want_some q13_27g6, want_some q13_27g10, want_some q13_27g16, want_some q13_32g2, want_some q13_32g8, want_some q13_32g12, want_some q13_32g17, want_some q13_32g23, want_some q13_32g42, want_some q13_66g3, want_some q13_66g7, want_some q13_66g13, e1, e1', h1, h1', h3, h3', this]
      · have h2' : ¬ (i : Int) = r := by omega
        simp (maxSteps := 1000000) (disch := first | omega | decide | assumption | simp [scal]) [lenA_sl lk_22, o_indexAddrA ea_60, loadA_eq ia_5, o_convI cv_5_3, o_indexAddrS es_24, loadA_eq ia_3, o_indexAddrS es_22, o_fieldAddr fa_55_1 (by decide), o_fieldAddr fa_55_0 (by decide), lenA_sl lk_24, want_some q13_13g3, want_some q13_16g8, want_some q13_16g10, want_some q13_27g2, want_some q13_27g6, want_some q13_27g10, want_some q13_27g16, want_some q13_32g2, want_some q13_32g8, want_some q13_32g12, want_some q13_32g17, want_some q13_32g23, want_some q13_32g42, want_some q13_66g3, want_some q13_66g7, want_some q13_66g13, e1, e1', h1, h1', h2, h2', this]
theorem l13 : ∀ q i : Nat, i + q = n →
    lpB Try.prog LL ⟨13, 199, 2, none⟩ n13_42 n13_43 ⟨[(7, sl 2 0 n n), (8, sl 3 0 n n), (10, iv r), (11, iv s), (153, iv n), (154, iv i)], [K0, K1, spB A, nB O], []⟩ =
      some (.exit 0, ⟨[], [K0, K1], []⟩) := by
  have n5 := S.n5
  intro q
  induction q with
  | zero =>
    intro i hi
    obtain rfl : i = n := by omega
    simp only [spB, nB]
    rw [lpB_eq]
    simp (maxSteps := 1000000) (disch := first | omega | decide | assumption | simp [scal]) [lenA_sl lk_22, o_indexAddrA ea_60, loadA_eq ia_5, o_convI cv_5_3, o_indexAddrS es_24, loadA_eq ia_3, o_indexAddrS es_22, o_fieldAddr fa_55_1 (by decide), o_fieldAddr fa_55_0 (by decide), lenA_sl lk_24, want_some q13_13g3, want_some q13_16g8, want_some q13_16g10, want_some q13_27g2, want_some q13_27g6, want_some q13_27g10, want_some q13_27g16, want_some q13_32g2, want_some q13_32g8, want_some q13_32g12, want_some q13_32g17, want_some q13_32g23, want_some q13_32g42, want_some q13_66g3, want_some q13_66g7, want_some q13_66g13]
  | succ q ih =>
    intro i hi
    have e1 : i < n := by omega
    have e1' : (i : Int) < n := by omega
    have this := ih (i + 1) (by omega)
    have inn := l13i K0 K1 S r s hr hs hq i e1 (n - (i + 1)) (i + 1) (by omega) (by omega)
    simp only [spB, nB] at this inn ⊢
    simp only [cast1] at this inn
    generalize nm O = M at *
    generalize A.flatMap spG = N at *
    rw [lpB_eq]
    simp (maxSteps := 1000000) (disch := first | omega | decide | assumption | simp [scal]) [lenA_sl lk_22, o_indexAddrA ea_60, loadA_eq ia_5, o_convI cv_5_3, o_indexAddrS es_24, loadA_eq ia_3, o_indexAddrS es_22, o_fieldAddr fa_55_1 (by decide), o_fieldAddr fa_55_0 (by decide), lenA_sl lk_24, want_some q13_13g3, want_some q13_16g8, want_some q13_16g10, want_some q13_27g2, want_some q13_27g6, want_some q13_27g10, want_some q13_27g16, want_some q13_32g2, want_some q13_32g8, want_some q13_32g12, want_some q13_32g17, want_some q13_32g23, want_some q13_32g42, want_some q13_66g3, want_some q13_66g7, want_some q13_66g13, e1, e1', inn, this]
end
theorem ver_eq {A : List (Int × Int)} {O : List Nat} {n : Nat} (S : MO A O n) {a b : Nat} (ha : a < n) (hb : b < n) : verS (spAt A) n (ntAt O) n a b = if a < b ∧ qt A O b a = true then 0 else 12 := by
  have h0 : ordS (spAt A) n (ntAt O) n = 0 := by
    unfold ordS
    have := S.ha.chk
    rw [S.la] at this
    rw [if_neg (by simp [this]), if_neg (by simp), (perm_ord S.hp).1]
  unfold verS
  have h1 : ((decide ((0 : Int) ≤ a) && decide ((a : Int) ≤ (n : Int) - 1)) && (decide ((0 : Int) ≤ b) && decide ((b : Int) ≤ (n : Int) - 1))) = true := by simp; omega
  rw [if_neg (by simp [h0]), if_neg (by simp only [h1]; decide)]
  rw [Int.toNat_natCast, Int.toNat_natCast, show (ntAt O b).toNat = O.getD b 0 from Int.toNat_natCast _, show (ntAt O a).toNat = O.getD a 0 from Int.toNat_natCast _]
  show (if (b : Int) ≤ a ∨ qt A O b a = false then (12 : Int) else 0) = _
  cases h2 : qt A O b a
  · simp
  · by_cases h3 : a < b
    · rw [if_neg (by simp; omega), if_pos ⟨h3, rfl⟩]
    · rw [if_pos (.inl (by omega)), if_neg (by simp [h3])]
theorem ord_eq {A : List (Int × Int)} {O : List Nat} {n : Nat} (S : MO A O n) : ordS (spAt A) n (ntAt O) n = 0 := by
  unfold ordS
  have := S.ha.chk
  rw [S.la] at this
  rw [if_neg (by simp [this]), if_neg (by simp), (perm_ord S.hp).1]
theorem ris_eq {A : List (Int × Int)} {O : List Nat} {n : Nat} (S : MO A O n) : risL (spAt A) (ntAt O) n 0 0 = true ↔ ∀ i j, i < j → j < n → qt A O j i = false := by
  rw [ris_iff]
  have hz : ∀ j, (ntAt O j).toNat = O.getD j 0 := fun j => Int.toNat_natCast _
  have ok : ∀ j, j < n → 0 ≤ (spAt A (O.getD j 0)).1 ∧ (spAt A (O.getD j 0)).1 ≤ (spAt A (O.getD j 0)).2 := fun j hj => by
    have := S.ha.at (i := O.getD j 0) (by rw [S.la]; exact S.lt hj)
    omega
  simp only [hz, qt, quiet, decide_eq_false_iff_not]
  constructor
  · rintro ⟨_, h⟩ i j h1 h2
    have := h i j (by omega) (by omega) (by omega)
    omega
  · intro h
    refine ⟨fun j _ h2 => by have := ok j (by omega); omega, fun j j' _ h2 h3 => ?_⟩
    by_cases hj : j = j'
    · subst hj; exact (ok j (by omega)).2
    · have := h j j' (by omega) (by omega); omega
theorem flt_eq {A : List (Int × Int)} {O : List Nat} {n : Nat} (S : MO A O n) : (fltP (spAt A) (ntAt O) n n 0 = none ∧ risL (spAt A) (ntAt O) n 0 0 = true) ∨
    ∃ r s, fltP (spAt A) (ntAt O) n n 0 = some (r, s) ∧ risL (spAt A) (ntAt O) n 0 0 = false ∧ r < s ∧ s < n ∧ qt A O s r = true ∧ ∀ i j, i < j → j < n → (i < r ∨ i = r ∧ j < s) → qt A O j i = false := by
  have hz : ∀ j, (ntAt O j).toNat = O.getD j 0 := fun j => Int.toNat_natCast _
  rcases fltP_iff (l := spAt A) (o := ntAt O) (m := n) n 0 (by omega) with ⟨h1, h2⟩ | ⟨r, s, h1, _, h2, h3, h4, h5⟩
  · refine .inl ⟨h1, (ris_eq S).2 fun i j a b => ?_⟩
    have := h2 i j (by omega) a b
    rw [hz, hz] at this
    exact this
  · simp only [hz] at h4 h5
    refine .inr ⟨r, s, h1, ?_, h2, h3, h4, fun i j a b c => h5 i j (by omega) a b c⟩
    cases hr : risL (spAt A) (ntAt O) n 0 0
    · rfl
    · have := (ris_eq S).1 hr r s h2 h3
      unfold qt at this
      rw [h4] at this
      exact this
section
variable (off n0 c off2 m c2 p q : Nat) {cs cs2 : List Value} {own own2 : Bool} {g : Nat → Nat × Nat} {g2 : Nat → Nat}
theorem c13 (hc : WeC cs off n0 g) (hc2 : ByC cs2 off2 m g2) (hp : p < 256) (hq : q < 256) :
    LL.run 13 [sl 0 off n0 c, sl 1 off2 m c2, .agg #[uv p, uv q]] [.cells cs 2 true own, .cells cs2 1 true own2] = some ⟨.bool true, [], []⟩ := by
  have a1 := fun b1 b2 => k35 off n0 c 0 (h := [.cells cs 2 true own, b1, b2]) rfl hc
  have hM := madR_M (g := g) (n := n0)
  obtain ⟨g1, g5, _⟩ := madR_ok (g := g) (n := n0)
  generalize madR g n0 = A at *
  obtain ⟨n, hn⟩ : ∃ n, A.length = n := ⟨_, rfl⟩
  have S : MO A (shuS g2 m n) n := ⟨hM, hn, shuS_len, by omega, shuS_perm⟩
  have a2 := fun b0 b2 b3 => k40 1 off2 m c2 (h := [b0, .cells cs2 1 true own2, b2, b3]) rfl hc2 n (by omega)
  generalize shuS g2 m n = O at *
  have hA := spAt_C A
  have hO := nm_C O
  rw [hn] at a1 hA
  rw [S.lo] at hO
  have ho := (perm_ord S.hp).2
  have n5 := S.n5
  have a3 := fun b0 b1 b2 bx => k51 3 0 n n 4 0 n n (h := b0 :: b1 :: b2 :: spB A :: nB O :: bx) rfl rfl (by decide) hA hO (by omega) ho
  have a4 := fun b0 b1 b2 bx => k42 3 0 n n 4 0 n n (h := b0 :: b1 :: b2 :: spB A :: nB O :: bx) rfl rfl (by decide) hA hO (by omega)
  have a5 := fun (x y : Nat) b0 b1 b2 bx => k47 3 0 n n 4 0 n n (h := b0 :: b1 :: b2 :: spB A :: nB O :: bx) rfl rfl (by decide) hA hO (x : Int) (y : Int) (by omega)
  have a6 := fun b0 b1 b2 bx => k37 3 0 n n 4 0 n n (h := b0 :: b1 :: b2 :: spB A :: nB O :: bx) rfl rfl (by decide) hA hO (by omega)
  unfold fltV at a4
  unfold posS at a6
  rw [ord_eq S, if_neg (by decide)] at a4 a6
  obtain ⟨a, ea⟩ : ∃ a, p % n = a := ⟨_, rfl⟩
  obtain ⟨b, eb⟩ : ∃ b, q % n = b := ⟨_, rfl⟩
  have ta : Int.tmod (p : Int) (n : Int) = (a : Int) := by rw [Int.tmod_eq_emod_of_nonneg (by omega)]; omega
  have tb : Int.tmod (q : Int) (n : Int) = (b : Int) := by rw [Int.tmod_eq_emod_of_nonneg (by omega)]; omega
  have an : a < n := by rw [← ea]; exact Nat.mod_lt _ (by omega)
  have bn : b < n := by rw [← eb]; exact Nat.mod_lt _ (by omega)
  have hne : (n : Int) ≠ 0 := by omega
  have v1 := a5 a b
  rw [ver_eq S an bn] at v1
  obtain ⟨p1, p2, p3⟩ := S.ld an
  obtain ⟨q1, q2, q3⟩ := S.ld bn
  have y1 := S.lt an
  have y2 := S.lt bn
  have hqt : qt A O b a = decide ((spAt A (O.getD b 0)).2 < (spAt A (O.getD a 0)).1) := rfl
  rcases flt_eq S with ⟨h1, h2⟩ | ⟨r, s, h1, h2, h3, h4, h5, h6⟩
  · rw [h1] at a4 a6
    rw [h2] at a3
    simp only [Option.isSome_none, Bool.false_eq_true, if_false] at a6
    have hno := (ris_eq S).1 h2
    rw [if_neg (fun h => by have := hno a b h.1 bn; rw [h.2] at this; exact absurd this (by decide))] at v1
    clear a5
    simp only [spB, nB] at a1 a2 a3 a4 a6 v1
    have hbad : a < b → ¬ (spAt A (O.getD b 0)).2 < (spAt A (O.getD a 0)).1 := fun h => by
      have := hno a b h bn
      rw [hqt] at this
      exact of_decide_eq_false this
    clear hno h1 h2 hqt S hM ho
    generalize nm O = M at *
    generalize A.flatMap spG = N at *
    generalize O.getD a 0 = x at *
    generalize O.getD b 0 = y at *
    generalize spAt A x = u at *
    generalize spAt A y = v at *
    obtain ⟨u1, u2⟩ := u
    obtain ⟨w1, w2⟩ := v
    simp only [] at p2 p3 q2 q3 hbad
    refine go (by decide) ?_
    rw [run13 _ _ _ (by simp)]
    by_cases h : a < b
    · have h' : (a : Int) < b := by omega
      have hbad := hbad h
      simp (maxSteps := 1000000) (disch := first | omega | decide | assumption | simp [scal]) [lenA_sl lk_22, o_indexAddrA ea_60, loadA_eq ia_5, o_convI cv_5_3, o_indexAddrS es_24, loadA_eq ia_3, o_indexAddrS es_22, o_fieldAddr fa_55_1 (by decide), o_fieldAddr fa_55_0 (by decide), lenA_sl lk_24, want_some q13_13g3, want_some q13_16g8, want_some q13_16g10, want_some q13_27g2, want_some q13_27g6, want_some q13_27g10, want_some q13_27g16, want_some q13_32g2, want_some q13_32g8, want_some q13_32g12, want_some q13_32g17, want_some q13_32g23, want_some q13_32g42, want_some q13_66g3, want_some q13_66g7, want_some q13_66g13, k14, a1, a2, a3, a4, a6, ta, tb, hne, an, bn, y1, y2, v1, p1, p2, p3, q1, q2, q3, h, h', hbad, bneq4]
    · have h' : ¬ (a : Int) < b := by omega
      simp (maxSteps := 1000000) (disch := first | omega | decide | assumption | simp [scal]) [lenA_sl lk_22, o_indexAddrA ea_60, loadA_eq ia_5, o_convI cv_5_3, o_indexAddrS es_24, loadA_eq ia_3, o_indexAddrS es_22, o_fieldAddr fa_55_1 (by decide), o_fieldAddr fa_55_0 (by decide), lenA_sl lk_24, want_some q13_13g3, want_some q13_16g8, want_some q13_16g10, want_some q13_27g2, want_some q13_27g6, want_some q13_27g10, want_some q13_27g16, want_some q13_32g2, want_some q13_32g8, want_some q13_32g12, want_some q13_32g17, want_some q13_32g23, want_some q13_32g42, want_some q13_66g3, want_some q13_66g7, want_some q13_66g13, k14, a1, a2, a3, a4, a6, ta, tb, hne, an, bn, y1, y2, v1, p1, p2, p3, q1, q2, q3, h, h', bneq4]
  · have L := l13 (.cells cs 2 true own) (.cells cs2 1 true own2) S r s (by omega) (by omega) h6 n 0 (by omega)
    rw [h1] at a4 a6
    rw [h2] at a3
    have v2 := a5 r s
    rw [ver_eq S (by omega) h4, if_pos ⟨h3, h5⟩] at v2
    obtain ⟨r1, r2, r3⟩ := S.ld h4
    obtain ⟨s1, s2, s3⟩ := S.ld (show r < n by omega)
    have z1 := S.lt h4
    have z2 := S.lt (show r < n by omega)
    unfold qt quiet at h5
    have h5 := of_decide_eq_true h5
    have h5' : ¬ (spAt A (O.getD r 0)).1 ≤ (spAt A (O.getD s 0)).2 := by omega
    simp only [Option.isSome_some, if_true] at a6
    clear a5
    simp only [spB, nB] at a1 a2 a3 a4 a6 v1 v2 L
    have k1 : (r : Int) < s := by omega
    have k2 : ¬ (s : Int) ≤ r := by omega
    have k3 : ¬ (n : Int) ≤ s := by omega
    have k4 : ¬ (r : Int) < 0 := by omega
    have k5 : r < n := by omega
    simp only [Int.natCast_zero] at L
    clear h1 h2 S hM ho h6
    generalize nm O = M at *
    generalize A.flatMap spG = N at *
    generalize O.getD a 0 = x at *
    generalize O.getD b 0 = y at *
    generalize O.getD r 0 = xr at *
    generalize O.getD s 0 = xs at *
    generalize hQ : qt A O b a = Q at *
    clear hQ
    generalize spAt A x = u at *
    generalize spAt A y = v at *
    generalize spAt A xr = ur at *
    generalize spAt A xs = us at *
    obtain ⟨u1, u2⟩ := u
    obtain ⟨w1, w2⟩ := v
    obtain ⟨ur1, ur2⟩ := ur
    obtain ⟨us1, us2⟩ := us
    simp only [] at p2 p3 q2 q3 r2 r3 s2 s3 h5 h5' hqt
    refine go (by decide) ?_
    rw [run13 _ _ _ (by simp)]
    by_cases h : a < b
    · have h' : (a : Int) < b := by omega
      by_cases hb : w2 < u1
      · rw [if_pos ⟨h, by rw [hqt]; exact decide_eq_true hb⟩] at v1
        simp (maxSteps := 1000000) (disch := first | omega | decide | assumption | simp [scal]) [lenA_sl lk_22, o_indexAddrA ea_60, loadA_eq ia_5, o_convI cv_5_3, o_indexAddrS es_24, loadA_eq ia_3, o_indexAddrS es_22, o_fieldAddr fa_55_1 (by decide), o_fieldAddr fa_55_0 (by decide), lenA_sl lk_24, want_some q13_13g3, want_some q13_16g8, want_some q13_16g10, want_some q13_27g2, want_some q13_27g6, want_some q13_27g10, want_some q13_27g16, want_some q13_32g2, want_some q13_32g8, want_some q13_32g12, want_some q13_32g17, want_some q13_32g23, want_some q13_32g42, want_some q13_66g3, want_some q13_66g7, want_some q13_66g13, k14, a1, a2, a3, a4, a6, ta, tb, hne, an, bn, y1, y2, v1, p1, p2, p3, q1, q2, q3, h, h', hb, bneq4, v2, r1, r2, r3, s1, s2, s3, z1, z2, h5, h5', h3, h4, k1, k2, k3, k4, k5, L]
      · rw [if_neg (fun h => by have := h.2; rw [hqt] at this; exact hb (of_decide_eq_true this))] at v1
        simp (maxSteps := 1000000) (disch := first | omega | decide | assumption | simp [scal]) [lenA_sl lk_22, o_indexAddrA ea_60, loadA_eq ia_5, o_convI cv_5_3, o_indexAddrS es_24, loadA_eq ia_3, o_indexAddrS es_22, o_fieldAddr fa_55_1 (by decide), o_fieldAddr fa_55_0 (by decide), lenA_sl lk_24, want_some q13_13g3, want_some q13_16g8, want_some q13_16g10, want_some q13_27g2, want_some q13_27g6, want_some q13_27g10, want_some q13_27g16, want_some q13_32g2, want_some q13_32g8, want_some q13_32g12, want_some q13_32g17, want_some q13_32g23, want_some q13_32g42, want_some q13_66g3, want_some q13_66g7, want_some q13_66g13, k14, a1, a2, a3, a4, a6, ta, tb, hne, an, bn, y1, y2, v1, p1, p2, p3, q1, q2, q3, h, h', hb, bneq4, v2, r1, r2, r3, s1, s2, s3, z1, z2, h5, h5', h3, h4, k1, k2, k3, k4, k5, L]
    · have h' : ¬ (a : Int) < b := by omega
      rw [if_neg (fun hh => h hh.1)] at v1
      simp (maxSteps := 1000000) (disch := first | omega | decide | assumption | simp [scal]) [lenA_sl lk_22, o_indexAddrA ea_60, loadA_eq ia_5, o_convI cv_5_3, o_indexAddrS es_24, loadA_eq ia_3, o_indexAddrS es_22, o_fieldAddr fa_55_1 (by decide), o_fieldAddr fa_55_0 (by decide), lenA_sl lk_24, want_some q13_13g3, want_some q13_16g8, want_some q13_16g10, want_some q13_27g2, want_some q13_27g6, want_some q13_27g10, want_some q13_27g16, want_some q13_32g2, want_some q13_32g8, want_some q13_32g12, want_some q13_32g17, want_some q13_32g23, want_some q13_32g42, want_some q13_66g3, want_some q13_66g7, want_some q13_66g13, k14, a1, a2, a3, a4, a6, ta, tb, hne, an, bn, y1, y2, v1, p1, p2, p3, q1, q2, q3, h, h', bneq4, v2, r1, r2, r3, s1, s2, s3, z1, z2, h5, h5', h3, h4, k1, k2, k3, k4, k5, L]
end
end Go.Proofs.Ytfccmddkblbeoaa.rk
namespace Go.Proofs.Ytfccmddkblbeoaa.rk
open Go.GE
set_option linter.unusedVariables false
set_option linter.unusedSimpArgs false
set_option linter.unusedSectionVars false
set_option maxRecDepth 100000
set_option maxHeartbeats 4000000
section
open Go.ChangeShapes Go.WideShapes Go.RowKit
variable {H : Type} {enc : TypeId × Value → H} {W : World} {base b0 : Nat} {v : Value} {d : DataW H} {p : List MemPlace}
def weOf (zs : List (List Int)) (i : Nat) : Nat × Nat := (((zs.getD i []).getD 0 0).toNat, ((zs.getD i []).getD 1 0).toNat)
def byOf (zs : List (List Int)) (i : Nat) : Nat := ((zs.getD i []).getD 0 0).toNat
theorem we_flat {zs : List (List Int)} (h : ∀ z ∈ zs, wfs [.u8, .u8] z) : WeC (zs.flatMap (ints [.u8, .u8])) 0 zs.length (weOf zs) := by
  have e : zs.flatMap (ints [.u8, .u8]) = zs.flatMap fun z => [uv (z.getD 0 0).toNat, uv (z.getD 1 0).toNat] := by
    induction zs with
    | nil => rfl
    | cons z zs ih =>
      have h0 := h z (by simp)
      have h1 := h0.1
      have h2 : wfs (List.replicate 2 .u8) z := h0
      match z, h1, h2 with
      | [a, b], _, h2 =>
        obtain ⟨x, rfl, _⟩ := nat_of (b := 255) (u8_wf (wfs_get h2 (z := a) (by simp)))
        obtain ⟨y, rfl, _⟩ := nat_of (b := 255) (u8_wf (wfs_get h2 (z := b) (by simp)))
        rw [List.flatMap_cons, List.flatMap_cons, ih fun z hz => h z (by simp [hz])]; rfl
  have hb : ∀ i, i < zs.length → (weOf zs i).1 < 256 ∧ (weOf zs i).2 < 256 := fun i hi => by
    have hm := h _ (List.getElem_mem hi)
    have h1 := hm.1
    have h2 : wfs (List.replicate 2 .u8) zs[i] := hm
    have e : zs.getD i [] = zs[i] := by simp [hi]
    unfold weOf
    rw [e]
    generalize zs[i] = z at *
    match z, h1, h2 with
    | [a, b], _, h2 =>
      have := u8_wf (wfs_get h2 (z := a) (by simp))
      have := u8_wf (wfs_get h2 (z := b) (by simp))
      simp only [List.getD_cons_zero, List.getD_cons_succ]
      omega
  rw [e]
  intro i hi
  have hz : zs[i]? = some (zs.getD i []) := by simp [hi]
  refine ⟨⟨?_, ?_⟩, hb i hi⟩
  · have := flat_get (g := fun z : List Int => [uv (z.getD 0 0).toNat, uv (z.getD 1 0).toNat]) (k := 2) (fun _ => rfl) hz (j := 0) (by omega)
    rw [Nat.add_zero] at this
    rw [Nat.zero_add, this]; rfl
  · have := flat_get (g := fun z : List Int => [uv (z.getD 0 0).toNat, uv (z.getD 1 0).toNat]) (k := 2) (fun _ => rfl) hz (j := 1) (by omega)
    rw [Nat.zero_add, this]; rfl
theorem by_flat {zs : List (List Int)} (h : ∀ z ∈ zs, wfs [.u8] z) : ByC (zs.flatMap (ints [.u8])) 0 zs.length (byOf zs) := by
  have e : zs.flatMap (ints [.u8]) = zs.flatMap fun z => [uv (z.getD 0 0).toNat] := by
    induction zs with
    | nil => rfl
    | cons z zs ih =>
      have h0 := h z (by simp)
      have h1 := h0.1
      have h2 : wfs (List.replicate 1 .u8) z := h0
      match z, h1, h2 with
      | [a], _, h2 =>
        obtain ⟨x, rfl, _⟩ := nat_of (b := 255) (u8_wf (wfs_get h2 (z := a) (by simp)))
        rw [List.flatMap_cons, List.flatMap_cons, ih fun z hz => h z (by simp [hz])]; rfl
  have hb : ∀ i, i < zs.length → byOf zs i < 256 := fun i hi => by
    have hm := h _ (List.getElem_mem hi)
    have h1 := hm.1
    have h2 : wfs (List.replicate 1 .u8) zs[i] := hm
    have e : zs.getD i [] = zs[i] := by simp [hi]
    unfold byOf
    rw [e]
    generalize zs[i] = z at *
    match z, h1, h2 with
    | [a], _, h2 =>
      have := u8_wf (wfs_get h2 (z := a) (by simp))
      simp only [List.getD_cons_zero]
      omega
  rw [e]
  intro i hi
  have hz : zs[i]? = some (zs.getD i []) := by simp [hi]
  refine ⟨?_, hb i hi⟩
  have := flat_get (g := fun z : List Int => [uv (z.getD 0 0).toNat]) (k := 1) (fun _ => rfl) hz (j := 0) (by omega)
  rw [Nat.mul_one, Nat.add_zero] at this
  rw [Nat.zero_add, this]; rfl
/-- a weather as it is handed over -/
theorem open_weather (hv : Value.okWide Try.prog W .any b0 47 v) (hd : DataW.Trod enc Try.prog W base (fun _ => true) true 47 v d p) :
    ∃ (n : Nat) (cs : List Value) (g : Nat → Nat × Nat) (mb : Option MB), WeC cs 0 n g ∧ WinO W mb (.cells cs 2 true false) ∧ ∀ (m : Mp) b, m b = mb → VR m (sl b 0 n n) v := by
  obtain ⟨zs, mb, hw, hvr, hz, _⟩ := open_param_flat (ks := [.u8, .u8]) (d := 5) Try.underlying47 (by kernel_rfl) (by kernel_rfl) (by decide) hv hd
  exact ⟨zs.length, _, weOf zs, mb, we_flat hz, hw, hvr⟩
theorem open_bytes (hv : Value.okWide Try.prog W .any b0 53 v) (hd : DataW.Trod enc Try.prog W base (fun _ => true) true 53 v d p) :
    ∃ (n : Nat) (cs : List Value) (g : Nat → Nat) (mb : Option MB), ByC cs 0 n g ∧ WinO W mb (.cells cs 1 true false) ∧ ∀ (m : Mp) b, m b = mb → VR m (sl b 0 n n) v := by
  obtain ⟨zs, mb, hw, hvr, hz, _⟩ := open_param_flat (ks := [.u8]) (d := 5) Try.underlying53 (by kernel_rfl) (by kernel_rfl) (by decide) hv hd
  exact ⟨zs.length, _, byOf zs, mb, by_flat hz, hw, hvr⟩
theorem open_b2 (hv : Value.okWide Try.prog W .any b0 60 v) (hd : DataW.Trod enc Try.prog W base (fun _ => true) true 60 v d p) : ∃ a b : Nat, v = .agg #[uv a, uv b] ∧ a < 256 ∧ b < 256 := by
  obtain ⟨zs, rfl, hw⟩ := open_array (ks := [.u8, .u8]) (d := 5) Try.underlying60 (by kernel_rfl) hv hd
  have h' : wfs (List.replicate 2 .u8) zs := hw
  match zs, hw.1, h' with
  | [x, y], _, h' =>
    obtain ⟨a, rfl, ha⟩ := nat_of (b := 255) (u8_wf (wfs_get h' (z := x) (by simp)))
    obtain ⟨b, rfl, hb⟩ := nat_of (b := 255) (u8_wf (wfs_get h' (z := y) (by simp)))
    exact ⟨a, b, rfl, ha, hb⟩
theorem VR_b2 {m : Mp} {a b : Nat} : VR m (.agg #[uv a, uv b]) (.agg #[uv a, uv b]) := .agg (.cons (.int _ _) (.cons (.int _ _) .nil))
end
end Go.Proofs.Ytfccmddkblbeoaa.rk
