/-
  Contracts of functions of the program at the limit evaluator. No condition.
-/
import Derived.Test.YtfccmddkblbeoaaRCN
import Derived.Test.YtfccmddkblbeoaaE40
namespace Go.Proofs.Ytfccmddkblbeoaa.rk
open Go.GE
set_option linter.unusedVariables false
set_option linter.unusedSimpArgs false
set_option linter.unusedSectionVars false
set_option maxRecDepth 100000
set_option maxHeartbeats 4000000
attribute [local simp] runOps_nil runOps_cons runOpsF_nil runOpsF_cons fstS_some fstF_some opStep_eq want_none oStep_true oStep_false fin_pure fin_read fin_alloc fin_write storeB wrN cellV addWr o_move o_assign o_pick o_alloc o_box o_load o_store o_nilCheck o_bin o_un o_extract o_callV o_callB o_callI callV_f callV_y callV_fc o_makeFunc partsA Instr.fill builtin_len builtin_max2 bin_add bin_sub bin_mul bin_quo bin_rem bin_lss bin_leq bin_gtr bin_geq bin_eql bin_neq un_neg un_not bin_shr bin_shl wrap_u64_id opd opds optAll putO nbeq nblt constOk isC ops sub cl cr co bodyOf thenS_normal thenS_ret thenS_exit thenS_goto afterN_normal afterN_ret afterN_exit afterN_goto condS_true condS_false blockS_normal blockS_ret blockS_exit blockS_goto headS normS normK_eq fixS_nil fixS_cons fix1 fixV emptyB keepO_nil keepO_cons roundC_normal roundC_exit roundC_ret roundC_goto sweep_eq sweepD rnm pickR pickW rootsB ptrT renT ptrFn renFn ptrB_flat ptrB_non renB_flat renB_non plainS_some drawS_some fpsOk disj unord range' dropTo enumT undef wrap_i64_id Value.cells mkCells ptrTo scal cellsAt rdN endS_ret resultsA Option.bind_some tupV finish reachN dep ptrL_eq ptrL renL_eq renL ptrV_bool ptrV_int ptrV_string ptrV_nilFunc ptrV_nilIface ptrV_nilPtr ptrV_ptr ptrV_nilSl ptrV_sl ptrV_iface ptrV_agg ptrV_tuple ptrV_func renV_bool renV_int renV_string renV_nilFunc renV_nilIface renV_nilPtr renV_ptr renV_nilSl renV_sl renV_iface renV_agg renV_tuple renV_func gotoS_goto gotoS_normal gotoS_exit gotoS_ret skip_seq sliceE bnd bndHi intOf optOpd keepT_nil keepT_cons keepC_t keepC_f lk_nil lk_cons lkC_t lkC_f has_nil has_cons hasC_t hasC_f rep_nil rep_cons repC_t repC_f put_eq putC_t putC_f mem_nil mem_cons memC_t memC_f idx_nil idx_cons idxC_t idxC_f reach_nil reach_cons reachC_t reachC_f
attribute [local simp] n57_1s n57_3s n57_4s n57_2s n57_0s Try.f57 n75_1s n75_3s n75_4s n75_2s n75_0s Try.f75 n82_1s n82_4s n82_8s n82_11s n82_12s n82_10s n82_16s n82_18s n82_21s n82_22s n82_20s n82_23s n82_19s n82_17s n82_15s n82_14s n82_24s n82_13s n82_9s n82_7s n82_6s n82_6g n82_5s n82_3s n82_26s n82_27s n82_25s n82_2s n82_0s Try.f82
theorem other {f : FuncId} (hf : (14 : Nat) ≠ f) (a : List Value) (h : List Blk) : (wk.wtab.keep kpT).run f a h = none := by
  show GE.tabR [wk.ew] f a h = none
  have : Nat.beq wk.ew.f f = false := GE.beq_false.2 hf
  simp only [tabR, this, Bool.false_and, cond_false]
theorem go {f : FuncId} {args : List Value} {h : List Blk} {r : RR} (hf : (14 : Nat) ≠ f) (he : runB Try.prog LL f args h = some r) : LL.run f args h = some r := L_run (other hf _ _) he
theorem k14 (h : List Blk) : callH LL 14 [] h = some ⟨.bool true, h, [], []⟩ := callH_plain (L_tab rfl) rfl rfl
abbrev sl (b off n c : Nat) : Value := .slice (some ⟨b, off, none⟩) n c
abbrev pp (b : Nat) : Value := .pointer (some ⟨b, 0, none⟩)
/-- cells of spans -/
def SpC (cs : List Value) (off n : Nat) (l : Nat → Int × Int) : Prop := ∀ i, i < n → cs[off + i * 2]? = some (iv (l i).1) ∧ cs[off + i * 2 + 1]? = some (iv (l i).2)
/-- cells of integers -/
def InC (cs : List Value) (off n : Nat) (o : Nat → Int) : Prop := ∀ i, i < n → cs[off + i]? = some (iv (o i))
theorem k57 (a b c : Int) (h : List Blk) : callH LL 57 [iv a, iv b, iv c] h = some ⟨.bool (decide (a ≤ b) && decide (b ≤ c)), h, [], []⟩ := by
  refine callH_plain (go (by decide) ?_) rfl rfl
  rw [run57 _ _ _ (by simp)]
  by_cases h1 : a ≤ b <;> by_cases h2 : b ≤ c <;>
  simp (maxSteps := 1000000) (disch := first | omega | decide | assumption | simp [scal]) [want_some q57_3g3, h1, h2]
/-- a month's day that is not valid -/
def bad (s : Int × Int) : Bool := !(decide (0 ≤ s.1) && decide (s.1 ≤ s.2)) || decide (100000 < s.2)
theorem k75 (x y : Int) (h : List Blk) : callH LL 75 [.agg #[iv x, iv y]] h = some ⟨.bool (bad (x, y)), h, [], []⟩ := by
  refine callH_none rfl (fun _ => rfl) (go (by decide) ?_) fun _ => rfl
  rw [run75 _ _ _ (by simp)]
  cases h1 : (decide (0 ≤ x) && decide (x ≤ y))
  · simp (maxSteps := 1000000) (disch := first | omega | decide | assumption | simp [scal]) [o_fieldAddr fa_55_0 (by decide), loadA_eq ia_3, o_fieldAddr fa_55_1 (by decide), want_some q75_3g6, h1, k57, bad]
  · by_cases h2 : (100000 : Int) < y
    · simp (maxSteps := 1000000) (disch := first | omega | decide | assumption | simp [scal]) [o_fieldAddr fa_55_0 (by decide), loadA_eq ia_3, o_fieldAddr fa_55_1 (by decide), want_some q75_3g6, h1, h2, k57, bad]
    · simp (maxSteps := 1000000) (disch := first | omega | decide | assumption | simp [scal]) [o_fieldAddr fa_55_0 (by decide), loadA_eq ia_3, o_fieldAddr fa_55_1 (by decide), want_some q75_3g6, h1, h2, k57, bad]
def idxL (l : Nat → Int × Int) : Nat → Nat → Int
  | 0, _ => -1
  | k + 1, i => if bad (l i) = true then i else idxL l k (i + 1)
def anyB (l : Nat → Int × Int) : Nat → Nat → Bool
  | 0, _ => false
  | k + 1, i => bad (l i) || anyB l k (i + 1)
theorem idx_any {l : Nat → Int × Int} : ∀ k i, decide (0 ≤ idxL l k i) = anyB l k i := by
  intro k
  induction k with
  | zero => intro i; rfl
  | succ k ih =>
    intro i
    unfold idxL anyB
    cases h : bad (l i)
    · simp [ih]
    · simp
theorem any_iff {l : Nat → Int × Int} {n : Nat} : anyB l n 0 = false ↔ ∀ i, i < n → bad (l i) = false := by
  have key : ∀ k i, anyB l k i = false ↔ ∀ j, i ≤ j → j < i + k → bad (l j) = false := by
    intro k
    induction k with
    | zero => intro i; simp only [anyB, true_iff]; intro j h1 h2; omega
    | succ k ih =>
      intro i
      simp only [anyB, Bool.or_eq_false_iff, ih]
      constructor
      · rintro ⟨h1, h2⟩ j h3 h4
        by_cases hj : j = i
        · subst hj; exact h1
        · exact h2 j (by omega) (by omega)
      · intro h
        exact ⟨h i (by omega) (by omega), fun j h1 h2 => h j (by omega) (by omega)⟩
  rw [key]
  constructor
  · intro h i hi; exact h i (by omega) (by omega)
  · intro h j _ hj; exact h j (by omega)
section
variable (off n c : Nat) (cs : List Value) (own : Bool) (l : Nat → Int × Int)
theorem l82 (hc : SpC cs off n l) (hn : n ≤ 60) : ∀ k i : Nat, i + k = n →
    lpB Try.prog LL ⟨82, 19, 1, none⟩ n82_6 n82_7 ⟨[(0, sl 0 off n c), (1, .func (.func 75) #[] #[]), (7, iv n), (8, iv i)], [.cells cs 2 true own], []⟩ =
      if idxL l k i = -1 then some (.exit 0, ⟨[], [.cells cs 2 true own], []⟩) else some (.ret, ⟨[(4, iv (idxL l k i))], [.cells cs 2 true own], []⟩) := by
  intro k
  induction k with
  | zero =>
    intro i hi
    obtain rfl : i = n := by omega
    rw [lpB_eq]
    simp (maxSteps := 1000000) (disch := first | omega | decide | assumption | simp [scal]) [lenA_sl lk_22, o_indexAddrS es_22, loadA_eq ia_55, idxL]
  | succ k ih =>
    intro i hi
    have e1 : i < n := by omega
    have this := ih (i + 1) (by omega)
    obtain ⟨e2, e3⟩ := hc i e1
    obtain ⟨x, y, hxy⟩ : ∃ x y, l i = (x, y) := ⟨_, _, rfl⟩
    rw [hxy] at e2 e3
    unfold idxL
    rw [hxy]
    rw [lpB_eq]
    simp only [cast1] at this
    cases h1 : bad (x, y)
    · simp (maxSteps := 1000000) (disch := first | omega | decide | assumption | simp [scal]) [lenA_sl lk_22, o_indexAddrS es_22, loadA_eq ia_55, e1, e2, e3, k75, h1, this]
    · have : ¬ ((i : Int) = -1) := by omega
      simp (maxSteps := 1000000) (disch := first | omega | decide | assumption | simp [scal]) [lenA_sl lk_22, o_indexAddrS es_22, loadA_eq ia_55, e1, e2, e3, k75, h1, this]
end
end Go.Proofs.Ytfccmddkblbeoaa.rk
namespace Go.Proofs.Ytfccmddkblbeoaa.rk
open Go.GE
set_option linter.unusedVariables false
set_option linter.unusedSimpArgs false
set_option linter.unusedSectionVars false
set_option maxRecDepth 100000
set_option maxHeartbeats 4000000
attribute [local simp] runOps_nil runOps_cons runOpsF_nil runOpsF_cons fstS_some fstF_some opStep_eq want_none oStep_true oStep_false fin_pure fin_read fin_alloc fin_write storeB wrN cellV addWr o_move o_assign o_pick o_alloc o_box o_load o_store o_nilCheck o_bin o_un o_extract o_callV o_callB o_callI callV_f callV_y callV_fc o_makeFunc partsA Instr.fill builtin_len builtin_max2 bin_add bin_sub bin_mul bin_quo bin_rem bin_lss bin_leq bin_gtr bin_geq bin_eql bin_neq un_neg un_not bin_shr bin_shl wrap_u64_id opd opds optAll putO nbeq nblt constOk isC ops sub cl cr co bodyOf thenS_normal thenS_ret thenS_exit thenS_goto afterN_normal afterN_ret afterN_exit afterN_goto condS_true condS_false blockS_normal blockS_ret blockS_exit blockS_goto headS normS normK_eq fixS_nil fixS_cons fix1 fixV emptyB keepO_nil keepO_cons roundC_normal roundC_exit roundC_ret roundC_goto sweep_eq sweepD rnm pickR pickW rootsB ptrT renT ptrFn renFn ptrB_flat ptrB_non renB_flat renB_non plainS_some drawS_some fpsOk disj unord range' dropTo enumT undef wrap_i64_id Value.cells mkCells ptrTo scal cellsAt rdN endS_ret resultsA Option.bind_some tupV finish reachN dep ptrL_eq ptrL renL_eq renL ptrV_bool ptrV_int ptrV_string ptrV_nilFunc ptrV_nilIface ptrV_nilPtr ptrV_ptr ptrV_nilSl ptrV_sl ptrV_iface ptrV_agg ptrV_tuple ptrV_func renV_bool renV_int renV_string renV_nilFunc renV_nilIface renV_nilPtr renV_ptr renV_nilSl renV_sl renV_iface renV_agg renV_tuple renV_func gotoS_goto gotoS_normal gotoS_exit gotoS_ret skip_seq sliceE bnd bndHi intOf optOpd keepT_nil keepT_cons keepC_t keepC_f lk_nil lk_cons lkC_t lkC_f has_nil has_cons hasC_t hasC_f rep_nil rep_cons repC_t repC_f put_eq putC_t putC_f mem_nil mem_cons memC_t memC_f idx_nil idx_cons idxC_t idxC_f reach_nil reach_cons reachC_t reachC_f
attribute [local simp] n82_1s n82_4s n82_8s n82_11s n82_12s n82_10s n82_16s n82_18s n82_21s n82_22s n82_20s n82_23s n82_19s n82_17s n82_15s n82_14s n82_24s n82_13s n82_9s n82_7s n82_6s n82_6g n82_5s n82_3s n82_26s n82_27s n82_25s n82_2s n82_0s Try.f82 n74_1s n74_3s n74_4s n74_2s n74_0s Try.f74 n45_1s n45_5s n45_8s n45_9s n45_7s n45_11s n45_14s n45_15s n45_13s n45_17s n45_20s n45_21s n45_19s n45_22s n45_18s n45_16s n45_12s n45_10s n45_6s n45_4s n45_3s n45_24s n45_25s n45_23s n45_2s n45_0s Try.f45 n77_1s n77_3s n77_4s n77_2s n77_0s Try.f77
/-- a month's check -/
def chkS (l : Nat → Int × Int) (n : Nat) : Int := if n = 0 then 2 else if 30 < n then 3 else if anyB l n 0 = true then 1 else 0
def quiet (l : Nat → Int × Int) (i k : Nat) : Bool := decide ((l i).2 < (l k).1)
section
variable (b off n c : Nat) {cs : List Value} {own : Bool} {l : Nat → Int × Int} {h : List Blk} (hb : h[b]? = some (.cells cs 2 true own)) (hc : SpC cs off n l)
include hb hc
theorem k82 (hn : n ≤ 60) : callH LL 82 [sl b off n c, .func (.func 75) #[] #[]] h = some ⟨iv (idxL l n 0), h, [b], []⟩ := by
  refine callH_1 rfl hb noIdB_flat (args' := [sl 0 off n c, .func (.func 75) #[] #[]]) (by simp [renV, dep, optAll, idx, nbeq]) (go (by decide) ?_) fun _ => rfl
  rw [run82 _ _ _ (by simp)]
  have this := l82 off n c cs own l hc hn n 0 (by omega)
  by_cases h1 : idxL l n 0 = -1
  · rw [if_pos h1] at this
    simp only [Int.natCast_zero] at this
    rw [h1]
    simp (maxSteps := 1000000) (disch := first | omega | decide | assumption | simp [scal]) [lenA_sl lk_22, o_indexAddrS es_22, loadA_eq ia_55, this]
  · rw [if_neg h1] at this
    simp only [Int.natCast_zero] at this
    simp (maxSteps := 1000000) (disch := first | omega | decide | assumption | simp [scal]) [lenA_sl lk_22, o_indexAddrS es_22, loadA_eq ia_55, this]
theorem k74 (hn : n ≤ 60) : callH LL 74 [sl b off n c, .func (.func 75) #[] #[]] h = some ⟨.bool (anyB l n 0), h, [b], []⟩ := by
  refine callH_1 rfl hb noIdB_flat (args' := [sl 0 off n c, .func (.func 75) #[] #[]]) (by simp [renV, dep, optAll, idx, nbeq]) (go (by decide) ?_) fun _ => rfl
  rw [run74 _ _ _ (by simp)]
  have a := k82 0 off n c (h := [.cells cs 2 true own]) rfl hc hn
  have e := idx_any (l := l) n 0
  generalize idxL l n 0 = x at *
  rw [← e]
  by_cases h1 : 0 ≤ x <;>
  simp (maxSteps := 1000000) (disch := first | omega | decide | assumption | simp [scal]) [a, h1]
theorem k45 (hn : n ≤ 60) : callH LL 45 [sl b off n c] h = some ⟨iv (chkS l n), h, [b], []⟩ := by
  refine callH_1 rfl hb noIdB_flat (args' := [sl 0 off n c]) (by simp [renV, dep, optAll, idx, nbeq]) (go (by decide) ?_) fun _ => rfl
  rw [run45 _ _ _ (by simp)]
  unfold chkS
  by_cases h1 : n = 0
  · subst h1
    simp (maxSteps := 1000000) (disch := first | omega | decide | assumption | simp [scal]) [lenA_sl lk_22]
  have h1' : ¬ ((n : Int) = 0) := by omega
  by_cases h2 : 30 < n
  · have h2' : (30 : Int) < n := by omega
    simp (maxSteps := 1000000) (disch := first | omega | decide | assumption | simp [scal]) [lenA_sl lk_22, h1, h1', h2, h2']
  have h2' : ¬ (30 : Int) < n := by omega
  have a := k74 0 off n c (h := [.cells cs 2 true own]) rfl hc hn
  cases h3 : anyB l n 0 <;> rw [h3] at a
  · simp (maxSteps := 1000000) (disch := first | omega | decide | assumption | simp [scal]) [lenA_sl lk_22, h1, h1', h2, h2', a]
  · simp (maxSteps := 1000000) (disch := first | omega | decide | assumption | simp [scal]) [lenA_sl lk_22, h1, h1', h2, h2', a]
theorem k77 (i k : Nat) (hi : i < n) (hk : k < n) : callH LL 77 [sl b off n c, iv i, iv k] h = some ⟨.bool (quiet l i k), h, [b], []⟩ := by
  refine callH_1 rfl hb noIdB_flat (args' := [sl 0 off n c, iv i, iv k]) (by simp [renV, dep, optAll, idx, nbeq]) (go (by decide) ?_) fun _ => rfl
  rw [run77 _ _ _ (by simp)]
  obtain ⟨e1, e2⟩ := hc i hi
  obtain ⟨e3, e4⟩ := hc k hk
  by_cases h1 : (l i).2 < (l k).1 <;>
  simp (maxSteps := 1000000) (disch := first | omega | decide | assumption | simp [scal]) [o_indexAddrS es_78, o_fieldAddr fa_55_1 (by decide), loadA_eq ia_3, o_fieldAddr fa_55_0 (by decide), hi, hk, e1, e2, e3, e4, quiet, h1]
end
end Go.Proofs.Ytfccmddkblbeoaa.rk
namespace Go.Proofs.Ytfccmddkblbeoaa.rk
open Go.GE
set_option linter.unusedVariables false
set_option linter.unusedSimpArgs false
set_option linter.unusedSectionVars false
set_option maxRecDepth 100000
set_option maxHeartbeats 4000000
attribute [local simp] runOps_nil runOps_cons runOpsF_nil runOpsF_cons fstS_some fstF_some opStep_eq want_none oStep_true oStep_false fin_pure fin_read fin_alloc fin_write storeB wrN cellV addWr o_move o_assign o_pick o_alloc o_box o_load o_store o_nilCheck o_bin o_un o_extract o_callV o_callB o_callI callV_f callV_y callV_fc o_makeFunc partsA Instr.fill builtin_len builtin_max2 bin_add bin_sub bin_mul bin_quo bin_rem bin_lss bin_leq bin_gtr bin_geq bin_eql bin_neq un_neg un_not bin_shr bin_shl wrap_u64_id opd opds optAll putO nbeq nblt constOk isC ops sub cl cr co bodyOf thenS_normal thenS_ret thenS_exit thenS_goto afterN_normal afterN_ret afterN_exit afterN_goto condS_true condS_false blockS_normal blockS_ret blockS_exit blockS_goto headS normS normK_eq fixS_nil fixS_cons fix1 fixV emptyB keepO_nil keepO_cons roundC_normal roundC_exit roundC_ret roundC_goto sweep_eq sweepD rnm pickR pickW rootsB ptrT renT ptrFn renFn ptrB_flat ptrB_non renB_flat renB_non plainS_some drawS_some fpsOk disj unord range' dropTo enumT undef wrap_i64_id Value.cells mkCells ptrTo scal cellsAt rdN endS_ret resultsA Option.bind_some tupV finish reachN dep ptrL_eq ptrL renL_eq renL ptrV_bool ptrV_int ptrV_string ptrV_nilFunc ptrV_nilIface ptrV_nilPtr ptrV_ptr ptrV_nilSl ptrV_sl ptrV_iface ptrV_agg ptrV_tuple ptrV_func renV_bool renV_int renV_string renV_nilFunc renV_nilIface renV_nilPtr renV_ptr renV_nilSl renV_sl renV_iface renV_agg renV_tuple renV_func gotoS_goto gotoS_normal gotoS_exit gotoS_ret skip_seq sliceE bnd bndHi intOf optOpd keepT_nil keepT_cons keepC_t keepC_f lk_nil lk_cons lkC_t lkC_f has_nil has_cons hasC_t hasC_f rep_nil rep_cons repC_t repC_f put_eq putC_t putC_f mem_nil mem_cons memC_t memC_f idx_nil idx_cons idxC_t idxC_f reach_nil reach_cons reachC_t reachC_f
attribute [local simp] n72_1s n72_4s n72_6s n72_9s n72_10s n72_8s n72_11s n72_7s n72_5s n72_3s n72_14s n72_17s n72_18s n72_16s n72_19s n72_15s n72_13s n72_21s n72_24s n72_28s n72_31s n72_32s n72_30s n72_36s n72_40s n72_43s n72_44s n72_42s n72_46s n72_49s n72_50s n72_48s n72_51s n72_47s n72_45s n72_41s n72_39s n72_38s n72_52s n72_37s n72_35s n72_34s n72_53s n72_33s n72_29s n72_27s n72_26s n72_26g n72_25s n72_23s n72_55s n72_56s n72_54s n72_22s n72_20s n72_12s n72_2s n72_0s Try.f72
abbrev wv (n : Nat) : Value := .int .u32 (n : Int)
theorem wrap_u32 {n : Nat} (h : n < 2 ^ 32) : IntKind.u32.wrap (n : Int) = n := by simp [IntKind.wrap, IntKind.bits, IntKind.signed]; omega
theorem bin_and1w {P : Program} {t : TypeId} {c : Bool} {w : Nat} (h : w < 2 ^ 32) : binA P .and t c (.int .u32 (w : Int)) (.int .u32 1) = some (.int .u32 ((w % 2 : Nat) : Int)) := by
  have e : (BitVec.ofInt 32 (w : Int) &&& BitVec.ofInt 32 1).toNat = w % 2 := by
    rw [BitVec.ofInt_natCast]
    rw [show BitVec.ofInt 32 1 = BitVec.ofNat 32 1 from rfl, BitVec.toNat_and, BitVec.toNat_ofNat, BitVec.toNat_ofNat, Nat.mod_eq_of_lt h, Nat.mod_eq_of_lt (by decide : 1 < 2 ^ 32), Nat.and_one_is_mod]
  have e' : IntKind.u32.wrap ((BitVec.ofInt 32 (w : Int) &&& BitVec.ofInt 32 1).toNat : Int) = ((w % 2 : Nat) : Int) := by rw [e]; exact wrap_u32 (by omega)
  show some (Value.int .u32 (IntKind.u32.wrap ((BitVec.ofInt 32 (w : Int) &&& BitVec.ofInt 32 1).toNat : Int))) = _
  rw [e']
theorem bin_orw {P : Program} {t : TypeId} {c : Bool} {w v : Nat} (h : w < 2 ^ 32) (h' : v < 2 ^ 32) : binA P .or t c (.int .u32 (w : Int)) (.int .u32 (v : Int)) = some (.int .u32 ((w ||| v : Nat) : Int)) := by
  have hl : w ||| v < 2 ^ 32 := Nat.or_lt_two_pow h h'
  have e : (BitVec.ofInt 32 (w : Int) ||| BitVec.ofInt 32 (v : Int)).toNat = w ||| v := by
    rw [BitVec.ofInt_natCast, BitVec.ofInt_natCast, BitVec.toNat_or, BitVec.toNat_ofNat, BitVec.toNat_ofNat, Nat.mod_eq_of_lt h, Nat.mod_eq_of_lt h']
  have e' : IntKind.u32.wrap ((BitVec.ofInt 32 (w : Int) ||| BitVec.ofInt 32 (v : Int)).toNat : Int) = ((w ||| v : Nat) : Int) := by rw [e]; exact wrap_u32 hl
  show some (Value.int .u32 (IntKind.u32.wrap ((BitVec.ofInt 32 (w : Int) ||| BitVec.ofInt 32 (v : Int)).toNat : Int))) = _
  rw [e']
theorem fdiv_poww {w i : Nat} (hi : i < 32) : ((w : Int).fdiv (2 ^ min i IntKind.u32.bits)) = ((w / 2 ^ i : Nat) : Int) := by
  rw [show min i IntKind.u32.bits = i from Nat.min_eq_left (Nat.le_of_lt hi), Int.fdiv_eq_ediv_of_nonneg _ (by exact_mod_cast Nat.zero_le _)]
  simp
theorem shl_poww {J : Nat} (hJ : J < 32) : IntKind.u32.wrap (2 ^ min J IntKind.u32.bits) = ((2 ^ J : Nat) : Int) := by
  rw [show min J IntKind.u32.bits = J from Nat.min_eq_left (Nat.le_of_lt hJ), show ((2 : Int) ^ J) = ((2 ^ J : Nat) : Int) by simp]
  exact wrap_u32 (Nat.pow_lt_pow_right (by decide) hJ)
/-- whether a number stands among the k places from j on -/
def seenK (o : Nat → Int) (x : Int) : Nat → Nat → Bool
  | 0, _ => false
  | k + 1, j => decide (o j = x) || seenK o x k (j + 1)
theorem seen_iff {o : Nat → Int} {x : Int} : ∀ k j, seenK o x k j = true ↔ ∃ p, j ≤ p ∧ p < j + k ∧ o p = x := by
  intro k
  induction k with
  | zero => intro j; simp only [seenK, Bool.false_eq_true, false_iff]; rintro ⟨p, h1, h2, _⟩; omega
  | succ k ih =>
    intro j
    simp only [seenK, Bool.or_eq_true, decide_eq_true_eq, ih]
    constructor
    · rintro (h | ⟨p, h1, h2, h3⟩)
      · exact ⟨j, by omega, by omega, h⟩
      · exact ⟨p, by omega, by omega, h3⟩
    · rintro ⟨p, h1, h2, h3⟩
      by_cases hp : p = j
      · subst hp; exact .inl h3
      · exact .inr ⟨p, by omega, by omega, h3⟩
/-- the days met so far, as bits -/
def maskN (o : Nat → Int) : Nat → Nat
  | 0 => 0
  | i + 1 => maskN o i ||| 2 ^ (o i).toNat
theorem mask_bit {o : Nat → Int} {x : Nat} : ∀ {i}, (∀ j, j < i → 0 ≤ o j) → (maskN o i).testBit x = seenK o x i 0 := by
  intro i h
  apply Bool.eq_iff_iff.2
  rw [seen_iff]
  induction i with
  | zero => simp [maskN]
  | succ i ih =>
    have h0 := h i (by omega)
    have ih := ih fun j hj => h j (by omega)
    simp only [maskN, Nat.testBit_or, Bool.or_eq_true, Nat.testBit_two_pow, decide_eq_true_eq]
    rw [ih]
    constructor
    · rintro (⟨p, h1, h2, h3⟩ | h3)
      · exact ⟨p, by omega, by omega, h3⟩
      · exact ⟨i, by omega, by omega, by omega⟩
    · rintro ⟨p, h1, h2, h3⟩
      by_cases hp : p = i
      · subst hp; exact .inr (by omega)
      · exact .inl ⟨p, by omega, by omega, h3⟩
theorem mask_lt {o : Nat → Int} : ∀ {i}, (∀ j, j < i → 0 ≤ o j ∧ o j < 30) → maskN o i < 2 ^ 30 := by
  intro i
  induction i with
  | zero => intro _; simp [maskN]
  | succ i ih =>
    intro h
    have h0 := h i (by omega)
    exact Nat.or_lt_two_pow (ih fun j hj => h j (by omega)) (Nat.pow_lt_pow_right (by decide) (by omega))
/-- what is wrong with an order, from the i-th day on -/
def ordL (o : Nat → Int) (n : Nat) : Nat → Nat → Int
  | 0, _ => 0
  | k + 1, i => if (decide (0 ≤ o i) && decide (o i ≤ (n : Int) - 1)) = false then 6 else if seenK o (o i) i 0 = true then 7 else ordL o n k (i + 1)
def ordS (l : Nat → Int × Int) (n : Nat) (o : Nat → Int) (m : Nat) : Int := if chkS l n ≠ 0 then chkS l n else if m ≠ n then 4 else ordL o n m 0
section
variable (off n c off2 m c2 : Nat) (cs cs2 : List Value) (own own2 : Bool) (l : Nat → Int × Int) (o : Nat → Int)
theorem l72 (hc2 : InC cs2 off2 m o) (hn : n ≤ 30) (hm : m = n) : ∀ k i : Nat, i + k = m → (∀ j, j < i → 0 ≤ o j ∧ o j < n) →
    lpB Try.prog LL ⟨72, 43, 2, none⟩ n72_26 n72_27 ⟨[(0, sl 0 off n c), (6, wv (maskN o i)), (19, sl 1 off2 m c2), (20, iv m), (21, iv i)], [.cells cs 2 true own, .cells cs2 1 true own2], []⟩ =
      if ordL o n k i = 0 then some (.exit 0, ⟨[], [.cells cs 2 true own, .cells cs2 1 true own2], []⟩) else some (.ret, ⟨[(4, iv (ordL o n k i))], [.cells cs 2 true own, .cells cs2 1 true own2], []⟩) := by
  intro k
  induction k with
  | zero =>
    intro i hi hj
    obtain rfl : i = m := by omega
    generalize maskN o i = M
    rw [lpB_eq]
    simp (maxSteps := 1000000) (disch := first | omega | decide | assumption | simp [scal]) [lenA_sl lk_24, lenA_sl lk_78, o_indexAddrS es_24, loadA_eq ia_3, ordL]
  | succ k ih =>
    intro i hi hj
    have e1 : i < m := by omega
    have e1' : (i : Int) < m := by omega
    have e2 := hc2 i e1
    have hb := fun x => @mask_bit o x i fun j h => (hj j h).1
    have hl := @mask_lt o i fun j h => by have := hj j h; omega
    unfold ordL
    by_cases h1 : 0 ≤ o i ∧ o i ≤ (n : Int) - 1
    · have this := ih (i + 1) (by omega) (fun j h => by
        by_cases hj' : j = i
        · subst hj'; omega
        · exact hj j (by omega))
      obtain ⟨h1, h2⟩ := h1
      obtain ⟨x, hx⟩ : ∃ x : Nat, o i = x := ⟨(o i).toNat, by omega⟩
      have hb := hb x
      rw [show maskN o (i + 1) = maskN o i ||| 2 ^ (o i).toNat from rfl] at this
      rw [hx] at e2 h1 h2 this ⊢
      rw [Int.toNat_natCast] at this
      generalize maskN o i = M at *
      generalize seenK o (x : Int) i 0 = s at *
      have f1 := @fdiv_poww M x (by omega)
      have hq : M / 2 ^ x < 2 ^ 32 := by have := Nat.div_le_self M (2 ^ x); omega
      have f2 := fun c => @bin_and1w Try.prog 76 c _ hq
      have f3 := @shl_poww x (by omega)
      have p1 : 2 ^ x < 2 ^ 32 := Nat.pow_lt_pow_right (by decide) (by omega)
      have f4 := fun c => @bin_orw Try.prog 76 c M (2 ^ x) (by omega) p1
      rw [Nat.testBit_eq_decide_div_mod_eq] at hb
      generalize ((2 ^ x : Nat) : Int) = Q at *
      generalize M / 2 ^ x = q at *
      simp only [cast1] at this
      rw [lpB_eq]
      cases s
      · have hb' : ¬ (q : Int) % 2 = 1 := by have := of_decide_eq_false hb; omega
        simp (maxSteps := 1000000) (disch := first | omega | decide | assumption | simp [scal]) [lenA_sl lk_24, lenA_sl lk_78, o_indexAddrS es_24, loadA_eq ia_3, e1, e1', e2, h1, h2, k57, f1, f2, f3, f4, hb', this]
      · have hb' : (q : Int) % 2 = 1 := by have := of_decide_eq_true hb; omega
        have hb'' := eq_true hb'
        simp (maxSteps := 1000000) (disch := first | omega | decide | assumption | simp [scal]) [lenA_sl lk_24, lenA_sl lk_78, o_indexAddrS es_24, loadA_eq ia_3, e1, e1', e2, h1, h2, k57, f1, f2, f3, f4, hb'']
    · have h1' : (decide (0 ≤ o i) && decide (o i ≤ (n : Int) - 1)) = false := by
        simp only [Bool.and_eq_false_iff, decide_eq_false_iff_not]; omega
      generalize maskN o i = M at *
      rw [lpB_eq]
      simp (maxSteps := 1000000) (disch := first | omega | decide | assumption | simp [scal]) [lenA_sl lk_24, lenA_sl lk_78, o_indexAddrS es_24, loadA_eq ia_3, e1, e1', e2, h1', k57]
end
theorem so_ren {b off n c b2 off2 m c2 : Nat} {vs : List Value} (hne : b ≠ b2) (hv : vs.all scal = true) : optAll (renV (idx [b, b2]) dep) (sl b off n c :: sl b2 off2 m c2 :: vs) = some (sl 0 off n c :: sl 1 off2 m c2 :: vs) := by
  have e1 : renV (idx [b, b2]) dep (sl b off n c) = some (sl 0 off n c) := by simp [renV, dep, idx, nbeq]
  have e2 : renV (idx [b, b2]) dep (sl b2 off2 m c2) = some (sl 1 off2 m c2) := by simp [renV, dep, idx, nbeq, hne, hne.symm]
  have e3 : ∀ vs : List Value, vs.all scal = true → optAll (renV (idx [b, b2]) dep) vs = some vs := by
    intro vs hv
    induction vs with
    | nil => rfl
    | cons v vs ih =>
      simp only [List.all_cons, Bool.and_eq_true] at hv
      have e : renV (idx [b, b2]) dep v = some v := by cases v <;> simp [scal] at hv <;> rfl
      simp only [optAll, e, ih hv.2]
  simp only [optAll, e1, e2, e3 vs hv]
section
variable (b off n c b2 off2 m c2 : Nat) {cs cs2 : List Value} {own own2 : Bool} {l : Nat → Int × Int} {o : Nat → Int} {h : List Blk}
  (hb : h[b]? = some (.cells cs 2 true own)) (hb2 : h[b2]? = some (.cells cs2 1 true own2)) (hne : b ≠ b2) (hc : SpC cs off n l) (hc2 : InC cs2 off2 m o)
include hb hb2 hne hc hc2
theorem k72 (hn : n ≤ 60) : callH LL 72 [sl b off n c, sl b2 off2 m c2] h = some ⟨iv (ordS l n o m), h, [b, b2], []⟩ := by
  refine callH_2 rfl hb hb2 hne noIdB_flat noIdB_flat (so_ren hne rfl) (go (by decide) ?_) fun _ => rfl
  rw [run72 _ _ _ (by simp)]
  have a := fun bx => k45 0 off n c (h := .cells cs 2 true own :: bx) rfl hc hn
  unfold ordS
  by_cases h1 : chkS l n = 0
  · have n30 : n ≤ 30 := by
      unfold chkS at h1
      by_cases h0 : n = 0
      · omega
      · rw [if_neg h0] at h1
        by_cases h2 : 30 < n
        · rw [if_pos h2] at h1; omega
        · omega
    rw [h1] at a
    by_cases h2 : m = n
    · have this := l72 off n c off2 m c2 cs cs2 own own2 o hc2 n30 h2 m 0 (by omega) (fun j hj => by omega)
      have h2' : (m : Int) = n := by omega
      rw [show maskN o 0 = 0 from rfl, show wv 0 = .int .u32 0 from rfl] at this
      simp only [Int.natCast_zero] at this
      by_cases h3 : ordL o n m 0 = 0
      · rw [if_pos h3] at this
        subst h2
        simp (maxSteps := 1000000) (disch := first | omega | decide | assumption | simp [scal]) [lenA_sl lk_24, lenA_sl lk_78, o_indexAddrS es_24, loadA_eq ia_3, a, h1, h3, this]
      · rw [if_neg h3] at this
        subst h2
        simp (maxSteps := 1000000) (disch := first | omega | decide | assumption | simp [scal]) [lenA_sl lk_24, lenA_sl lk_78, o_indexAddrS es_24, loadA_eq ia_3, a, h1, h3, this]
    · have h2' : ¬ (m : Int) = n := by omega
      simp (maxSteps := 1000000) (disch := first | omega | decide | assumption | simp [scal]) [lenA_sl lk_24, lenA_sl lk_78, o_indexAddrS es_24, loadA_eq ia_3, a, h1, h2, h2']
  · simp (maxSteps := 1000000) (disch := first | omega | decide | assumption | simp [scal]) [lenA_sl lk_24, lenA_sl lk_78, o_indexAddrS es_24, loadA_eq ia_3, a, h1]
end
end Go.Proofs.Ytfccmddkblbeoaa.rk
namespace Go.Proofs.Ytfccmddkblbeoaa.rk
open Go.GE
set_option linter.unusedVariables false
set_option linter.unusedSimpArgs false
set_option linter.unusedSectionVars false
set_option maxRecDepth 100000
set_option maxHeartbeats 4000000
attribute [local simp] runOps_nil runOps_cons runOpsF_nil runOpsF_cons fstS_some fstF_some opStep_eq want_none oStep_true oStep_false fin_pure fin_read fin_alloc fin_write storeB wrN cellV addWr o_move o_assign o_pick o_alloc o_box o_load o_store o_nilCheck o_bin o_un o_extract o_callV o_callB o_callI callV_f callV_y callV_fc o_makeFunc partsA Instr.fill builtin_len builtin_max2 bin_add bin_sub bin_mul bin_quo bin_rem bin_lss bin_leq bin_gtr bin_geq bin_eql bin_neq un_neg un_not bin_shr bin_shl wrap_u64_id opd opds optAll putO nbeq nblt constOk isC ops sub cl cr co bodyOf thenS_normal thenS_ret thenS_exit thenS_goto afterN_normal afterN_ret afterN_exit afterN_goto condS_true condS_false blockS_normal blockS_ret blockS_exit blockS_goto headS normS normK_eq fixS_nil fixS_cons fix1 fixV emptyB keepO_nil keepO_cons roundC_normal roundC_exit roundC_ret roundC_goto sweep_eq sweepD rnm pickR pickW rootsB ptrT renT ptrFn renFn ptrB_flat ptrB_non renB_flat renB_non plainS_some drawS_some fpsOk disj unord range' dropTo enumT undef wrap_i64_id Value.cells mkCells ptrTo scal cellsAt rdN endS_ret resultsA Option.bind_some tupV finish reachN dep ptrL_eq ptrL renL_eq renL ptrV_bool ptrV_int ptrV_string ptrV_nilFunc ptrV_nilIface ptrV_nilPtr ptrV_ptr ptrV_nilSl ptrV_sl ptrV_iface ptrV_agg ptrV_tuple ptrV_func renV_bool renV_int renV_string renV_nilFunc renV_nilIface renV_nilPtr renV_ptr renV_nilSl renV_sl renV_iface renV_agg renV_tuple renV_func gotoS_goto gotoS_normal gotoS_exit gotoS_ret skip_seq sliceE bnd bndHi intOf optOpd keepT_nil keepT_cons keepC_t keepC_f lk_nil lk_cons lkC_t lkC_f has_nil has_cons hasC_t hasC_f rep_nil rep_cons repC_t repC_f put_eq putC_t putC_f mem_nil mem_cons memC_t memC_f idx_nil idx_cons idxC_t idxC_f reach_nil reach_cons reachC_t reachC_f
attribute [local simp] n73_1s n73_4s n73_8s n73_11s n73_12s n73_10s n73_16s n73_18s n73_23s n73_25s n73_26s n73_24s n73_22s n73_30s n73_33s n73_34s n73_32s n73_35s n73_31s n73_29s n73_28s n73_36s n73_27s n73_21s n73_20s n73_20g n73_19s n73_17s n73_15s n73_14s n73_37s n73_13s n73_9s n73_7s n73_6s n73_6g n73_5s n73_3s n73_39s n73_40s n73_38s n73_2s n73_0s Try.f73
/-- the place q of a fault at p -/
def fltQ (l : Nat → Int × Int) (o : Nat → Int) (p : Nat) : Nat → Nat → Option Nat
  | 0, _ => none
  | k + 1, q => if quiet l (o q).toNat (o p).toNat = true then some q else fltQ l o p k (q + 1)
def fltP (l : Nat → Int × Int) (o : Nat → Int) (m : Nat) : Nat → Nat → Option (Nat × Nat)
  | 0, _ => none
  | k + 1, p => match fltQ l o p (m - (p + 1)) (p + 1) with
    | some q => some (p, q)
    | none => fltP l o m k (p + 1)
section
variable (off n c off2 m c2 : Nat) (cs cs2 : List Value) (own own2 : Bool) (l : Nat → Int × Int) (o : Nat → Int)
  (hc : SpC cs off n l) (hc2 : InC cs2 off2 m o) (hm : m ≤ 60) (ho : ∀ j, j < m → 0 ≤ o j ∧ o j < n)
include hc hc2 hm ho
theorem l73i (p : Nat) (hp : p < m) : ∀ k q : Nat, q + k = m →
    lpB Try.prog LL ⟨73, 35, 2, none⟩ n73_20 n73_21 ⟨[(7, iv p), (8, iv q), (0, sl 0 off n c), (1, sl 1 off2 m c2), (10, iv m), (11, iv p)], [.cells cs 2 true own, .cells cs2 1 true own2], []⟩ =
      match fltQ l o p k q with
      | none => some (.exit 2, ⟨[(0, sl 0 off n c), (1, sl 1 off2 m c2), (10, iv m), (11, iv p)], [.cells cs 2 true own, .cells cs2 1 true own2], []⟩)
      | some q' => some (.ret, ⟨[(4, iv p), (5, iv q'), (6, .bool true)], [.cells cs 2 true own, .cells cs2 1 true own2], []⟩) := by
  intro k
  induction k with
  | zero =>
    intro q hq
    obtain rfl : q = m := by omega
    rw [lpB_eq]
    simp (maxSteps := 1000000) (disch := first | omega | decide | assumption | simp [scal]) [lenA_sl lk_24, o_indexAddrS es_24, loadA_eq ia_3, fltQ]
  | succ k ih =>
    intro q hq
    have e1 : q < m := by omega
    have e1' : (q : Int) < m := by omega
    have e3 := hc2 q e1
    have e4 := hc2 p hp
    have this := ih (q + 1) (by omega)
    obtain ⟨x, hx⟩ : ∃ x : Nat, o q = x := ⟨(o q).toNat, by have := ho q e1; omega⟩
    obtain ⟨y, hy⟩ : ∃ y : Nat, o p = y := ⟨(o p).toNat, by have := ho p hp; omega⟩
    have a := fun bx => k77 0 off n c (h := .cells cs 2 true own :: bx) rfl hc x y (by have := ho q e1; omega) (by have := ho p hp; omega)
    unfold fltQ
    simp only [cast1] at this
    rw [hx] at e3
    rw [hy] at e4
    rw [hx, hy, Int.toNat_natCast, Int.toNat_natCast]
    rw [lpB_eq]
    cases h1 : quiet l x y <;> rw [h1] at a
    · simp (maxSteps := 1000000) (disch := first | omega | decide | assumption | simp [scal]) [lenA_sl lk_24, o_indexAddrS es_24, loadA_eq ia_3, e1, e1', e3, e4, hp, a, this]
    · simp (maxSteps := 1000000) (disch := first | omega | decide | assumption | simp [scal]) [lenA_sl lk_24, o_indexAddrS es_24, loadA_eq ia_3, e1, e1', e3, e4, hp, a]
theorem l73 : ∀ k p : Nat, p + k = m →
    lpB Try.prog LL ⟨73, 35, 2, none⟩ n73_6 n73_7 ⟨[(0, sl 0 off n c), (1, sl 1 off2 m c2), (10, iv m), (11, iv p)], [.cells cs 2 true own, .cells cs2 1 true own2], []⟩ =
      match fltP l o m k p with
      | none => some (.exit 0, ⟨[], [.cells cs 2 true own, .cells cs2 1 true own2], []⟩)
      | some r => some (.ret, ⟨[(4, iv r.1), (5, iv r.2), (6, .bool true)], [.cells cs 2 true own, .cells cs2 1 true own2], []⟩) := by
  intro k
  induction k with
  | zero =>
    intro p hp
    obtain rfl : p = m := by omega
    rw [lpB_eq]
    simp (maxSteps := 1000000) (disch := first | omega | decide | assumption | simp [scal]) [lenA_sl lk_24, o_indexAddrS es_24, loadA_eq ia_3, fltP]
  | succ k ih =>
    intro p hp
    have e1 : p < m := by omega
    have e1' : (p : Int) < m := by omega
    have this := ih (p + 1) (by omega)
    have inn := l73i off n c off2 m c2 cs cs2 own own2 l o hc hc2 hm ho p e1 (m - (p + 1)) (p + 1) (by omega)
    unfold fltP
    simp only [cast1] at this inn
    rw [lpB_eq]
    cases h1 : fltQ l o p (m - (p + 1)) (p + 1) with
    | none =>
      rw [h1] at inn
      simp (maxSteps := 1000000) (disch := first | omega | decide | assumption | simp [scal]) [lenA_sl lk_24, o_indexAddrS es_24, loadA_eq ia_3, e1, e1', inn, this]
    | some q =>
      rw [h1] at inn
      simp (maxSteps := 1000000) (disch := first | omega | decide | assumption | simp [scal]) [lenA_sl lk_24, o_indexAddrS es_24, loadA_eq ia_3, e1, e1', inn]
end
theorem ord_ok {l : Nat → Int × Int} {n : Nat} {o : Nat → Int} {m : Nat} (h : ordS l n o m = 0) : m = n ∧ n ≤ 30 ∧ ∀ j, j < m → 0 ≤ o j ∧ o j < n := by
  unfold ordS at h
  by_cases h1 : chkS l n = 0
  · rw [if_neg (by simp [h1])] at h
    by_cases h2 : m = n
    · rw [if_neg (by simp [h2])] at h
      refine ⟨h2, ?_, ?_⟩
      · unfold chkS at h1
        by_cases h0 : n = 0
        · omega
        · rw [if_neg h0] at h1
          by_cases h2 : 30 < n
          · rw [if_pos h2] at h1; omega
          · omega
      · have key : ∀ k i, ordL o n k i = 0 → ∀ j, i ≤ j → j < i + k → 0 ≤ o j ∧ o j < n := by
          intro k
          induction k with
          | zero => intro i _ j h3 h4; omega
          | succ k ih =>
            intro i hk j h3 h4
            unfold ordL at hk
            cases h5 : (decide (0 ≤ o i) && decide (o i ≤ (n : Int) - 1))
            · rw [if_pos h5] at hk; omega
            · rw [if_neg (by simp [h5])] at hk
              by_cases h6 : seenK o (o i) i 0 = true
              · rw [if_pos h6] at hk; omega
              · rw [if_neg h6] at hk
                simp only [Bool.and_eq_true, decide_eq_true_eq] at h5
                by_cases hj : j = i
                · subst hj; omega
                · exact ih (i + 1) hk j (by omega) (by omega)
        intro j hj
        exact key m 0 h j (by omega) (by omega)
    · rw [if_pos h2] at h; omega
  · rw [if_pos h1] at h; omega
def posS (l : Nat → Int × Int) (n : Nat) (o : Nat → Int) (m : Nat) : Int := if ordS l n o m ≠ 0 then ordS l n o m else if (fltP l o m m 0).isSome then 13 else 0
section
variable (b off n c b2 off2 m c2 : Nat) {cs cs2 : List Value} {own own2 : Bool} {l : Nat → Int × Int} {o : Nat → Int} {h : List Blk}
  (hb : h[b]? = some (.cells cs 2 true own)) (hb2 : h[b2]? = some (.cells cs2 1 true own2)) (hne : b ≠ b2) (hc : SpC cs off n l) (hc2 : InC cs2 off2 m o)
include hb hb2 hne hc hc2
theorem k73 (hm : m ≤ 60) (ho : ∀ j, j < m → 0 ≤ o j ∧ o j < n) : callH LL 73 [sl b off n c, sl b2 off2 m c2] h = some ⟨match fltP l o m m 0 with | none => .tuple #[iv 0, iv 0, .bool false] | some r => .tuple #[iv r.1, iv r.2, .bool true], h, [b, b2], []⟩ := by
  refine callH_2 rfl hb hb2 hne noIdB_flat noIdB_flat (so_ren hne rfl) (go (by decide) ?_) fun _ => by split <;> rfl
  rw [run73 _ _ _ (by simp)]
  have this := l73 off n c off2 m c2 cs cs2 own own2 l o hc hc2 hm ho m 0 (by omega)
  simp only [Int.natCast_zero] at this
  cases h1 : fltP l o m m 0 with
  | none =>
    rw [h1] at this
    simp (maxSteps := 1000000) (disch := first | omega | decide | assumption | simp [scal]) [lenA_sl lk_24, o_indexAddrS es_24, loadA_eq ia_3, this]
  | some r =>
    rw [h1] at this
    simp (maxSteps := 1000000) (disch := first | omega | decide | assumption | simp [scal]) [lenA_sl lk_24, o_indexAddrS es_24, loadA_eq ia_3, this]
end
end Go.Proofs.Ytfccmddkblbeoaa.rk
namespace Go.Proofs.Ytfccmddkblbeoaa.rk
open Go.GE
set_option linter.unusedVariables false
set_option linter.unusedSimpArgs false
set_option linter.unusedSectionVars false
set_option maxRecDepth 100000
set_option maxHeartbeats 4000000
attribute [local simp] runOps_nil runOps_cons runOpsF_nil runOpsF_cons fstS_some fstF_some opStep_eq want_none oStep_true oStep_false fin_pure fin_read fin_alloc fin_write storeB wrN cellV addWr o_move o_assign o_pick o_alloc o_box o_load o_store o_nilCheck o_bin o_un o_extract o_callV o_callB o_callI callV_f callV_y callV_fc o_makeFunc partsA Instr.fill builtin_len builtin_max2 bin_add bin_sub bin_mul bin_quo bin_rem bin_lss bin_leq bin_gtr bin_geq bin_eql bin_neq un_neg un_not bin_shr bin_shl wrap_u64_id opd opds optAll putO nbeq nblt constOk isC ops sub cl cr co bodyOf thenS_normal thenS_ret thenS_exit thenS_goto afterN_normal afterN_ret afterN_exit afterN_goto condS_true condS_false blockS_normal blockS_ret blockS_exit blockS_goto headS normS normK_eq fixS_nil fixS_cons fix1 fixV emptyB keepO_nil keepO_cons roundC_normal roundC_exit roundC_ret roundC_goto sweep_eq sweepD rnm pickR pickW rootsB ptrT renT ptrFn renFn ptrB_flat ptrB_non renB_flat renB_non plainS_some drawS_some fpsOk disj unord range' dropTo enumT undef wrap_i64_id Value.cells mkCells ptrTo scal cellsAt rdN endS_ret resultsA Option.bind_some tupV finish reachN dep ptrL_eq ptrL renL_eq renL ptrV_bool ptrV_int ptrV_string ptrV_nilFunc ptrV_nilIface ptrV_nilPtr ptrV_ptr ptrV_nilSl ptrV_sl ptrV_iface ptrV_agg ptrV_tuple ptrV_func renV_bool renV_int renV_string renV_nilFunc renV_nilIface renV_nilPtr renV_ptr renV_nilSl renV_sl renV_iface renV_agg renV_tuple renV_func gotoS_goto gotoS_normal gotoS_exit gotoS_ret skip_seq sliceE bnd bndHi intOf optOpd keepT_nil keepT_cons keepC_t keepC_f lk_nil lk_cons lkC_t lkC_f has_nil has_cons hasC_t hasC_f rep_nil rep_cons repC_t repC_f put_eq putC_t putC_f mem_nil mem_cons memC_t memC_f idx_nil idx_cons idxC_t idxC_f reach_nil reach_cons reachC_t reachC_f
attribute [local simp] n37_1s n37_4s n37_6s n37_9s n37_10s n37_8s n37_11s n37_7s n37_5s n37_3s n37_14s n37_16s n37_19s n37_20s n37_18s n37_21s n37_17s n37_15s n37_13s n37_23s n37_24s n37_22s n37_12s n37_2s n37_0s Try.f37
section
variable (b off n c b2 off2 m c2 : Nat) {cs cs2 : List Value} {own own2 : Bool} {l : Nat → Int × Int} {o : Nat → Int} {h : List Blk}
  (hb : h[b]? = some (.cells cs 2 true own)) (hb2 : h[b2]? = some (.cells cs2 1 true own2)) (hne : b ≠ b2) (hc : SpC cs off n l) (hc2 : InC cs2 off2 m o)
include hb hb2 hne hc hc2
theorem k37 (hn : n ≤ 60) : callH LL 37 [sl b off n c, sl b2 off2 m c2] h = some ⟨iv (posS l n o m), h, [b, b2], []⟩ := by
  refine callH_2 rfl hb hb2 hne noIdB_flat noIdB_flat (so_ren hne rfl) (go (by decide) ?_) fun _ => rfl
  rw [run37 _ _ _ (by simp)]
  have a := fun bx => k72 0 off n c 1 off2 m c2 (h := .cells cs 2 true own :: .cells cs2 1 true own2 :: bx) rfl rfl (by decide) hc hc2 hn
  unfold posS
  by_cases h1 : ordS l n o m = 0
  · obtain ⟨h2, h3, h4⟩ := ord_ok h1
    have a1 := fun bx => k73 0 off n c 1 off2 m c2 (h := .cells cs 2 true own :: .cells cs2 1 true own2 :: bx) rfl rfl (by decide) hc hc2 (by omega) h4
    rw [h1] at a
    cases h5 : fltP l o m m 0 with
    | none =>
      rw [h5] at a1
      simp (maxSteps := 1000000) (disch := first | omega | decide | assumption | simp [scal]) [a, h1, a1]
    | some r =>
      rw [h5] at a1
      simp (maxSteps := 1000000) (disch := first | omega | decide | assumption | simp [scal]) [a, h1, a1]
  · simp (maxSteps := 1000000) (disch := first | omega | decide | assumption | simp [scal]) [a, h1]
end
end Go.Proofs.Ytfccmddkblbeoaa.rk
namespace Go.Proofs.Ytfccmddkblbeoaa.rk
open Go.GE
set_option linter.unusedVariables false
set_option linter.unusedSimpArgs false
set_option linter.unusedSectionVars false
set_option maxRecDepth 100000
set_option maxHeartbeats 4000000
section
open Go.ChangeShapes Go.WideShapes Go.RowKit
variable {H : Type} {enc : TypeId × Value → H} {W : World} {base b0 : Nat} {v : Value} {d : DataW H} {p : List MemPlace}
abbrev spG (p : Int × Int) : List Value := [iv p.1, iv p.2]
end
end Go.Proofs.Ytfccmddkblbeoaa.rk
namespace Go.GE
end Go.GE
namespace Go.Proofs.Ytfccmddkblbeoaa.rk
open Go.GE
set_option linter.unusedVariables false
set_option linter.unusedSimpArgs false
set_option linter.unusedSectionVars false
set_option maxRecDepth 100000
set_option maxHeartbeats 4000000
attribute [local simp] runOps_nil runOps_cons runOpsF_nil runOpsF_cons fstS_some fstF_some opStep_eq want_none oStep_true oStep_false fin_pure fin_read fin_alloc fin_write storeB wrN cellV addWr o_move o_assign o_pick o_alloc o_box o_load o_store o_nilCheck o_bin o_un o_extract o_callV o_callB o_callI callV_f callV_y callV_fc o_makeFunc partsA Instr.fill builtin_len builtin_max2 bin_add bin_sub bin_mul bin_quo bin_rem bin_lss bin_leq bin_gtr bin_geq bin_eql bin_neq un_neg un_not bin_shr bin_shl wrap_u64_id opd opds optAll putO nbeq nblt constOk isC ops sub cl cr co bodyOf thenS_normal thenS_ret thenS_exit thenS_goto afterN_normal afterN_ret afterN_exit afterN_goto condS_true condS_false blockS_normal blockS_ret blockS_exit blockS_goto headS normS normK_eq fixS_nil fixS_cons fix1 fixV emptyB keepO_nil keepO_cons roundC_normal roundC_exit roundC_ret roundC_goto sweep_eq sweepD rnm pickR pickW rootsB ptrT renT ptrFn renFn ptrB_flat ptrB_non renB_flat renB_non plainS_some drawS_some fpsOk disj unord range' dropTo enumT undef wrap_i64_id Value.cells mkCells ptrTo scal cellsAt rdN endS_ret resultsA Option.bind_some tupV finish reachN dep ptrL_eq ptrL renL_eq renL ptrV_bool ptrV_int ptrV_string ptrV_nilFunc ptrV_nilIface ptrV_nilPtr ptrV_ptr ptrV_nilSl ptrV_sl ptrV_iface ptrV_agg ptrV_tuple ptrV_func renV_bool renV_int renV_string renV_nilFunc renV_nilIface renV_nilPtr renV_ptr renV_nilSl renV_sl renV_iface renV_agg renV_tuple renV_func gotoS_goto gotoS_normal gotoS_exit gotoS_ret skip_seq sliceE bnd bndHi intOf optOpd keepT_nil keepT_cons keepC_t keepC_f lk_nil lk_cons lkC_t lkC_f has_nil has_cons hasC_t hasC_f rep_nil rep_cons repC_t repC_f put_eq putC_t putC_f mem_nil mem_cons memC_t memC_f idx_nil idx_cons idxC_t idxC_f reach_nil reach_cons reachC_t reachC_f
attribute [local simp] n44_1s n44_3s n44_6s n44_11s n44_13s n44_14s n44_12s n44_10s n44_17s n44_16s n44_18s n44_15s n44_9s n44_8s n44_8g n44_7s n44_5s n44_20s n44_21s n44_19s n44_4s n44_2s n44_0s Try.f44 n35_1s n35_3s n35_6s n35_11s n35_13s n35_14s n35_12s n35_10s n35_18s n35_19s n35_17s n35_16s n35_20s n35_15s n35_9s n35_8s n35_8g n35_7s n35_5s n35_23s n35_25s n35_26s n35_24s n35_22s n35_28s n35_29s n35_27s n35_21s n35_4s n35_2s n35_0s Try.f35
abbrev uv (n : Nat) : Value := .int .u8 (n : Int)
/-- cells of a weather's days: pairs of bytes -/
def WeC (cs : List Value) (off n : Nat) (g : Nat → Nat × Nat) : Prop := ∀ i, i < n → (cs[off + i * 2]? = some (uv (g i).1) ∧ cs[off + i * 2 + 1]? = some (uv (g i).2)) ∧ (g i).1 < 256 ∧ (g i).2 < 256
def madD (g : Nat → Nat × Nat) (i : Nat) : Int × Int := (((g i).1 : Int) % 14, ((g i).1 : Int) % 14 + ((g i).2 : Int) % 6)
def madR (g : Nat → Nat × Nat) (n : Nat) : List (Int × Int) := if n = 0 then [(3, 4)] else (List.range (min n 5)).map (madD g)
theorem tm14 {z : Nat} : ((z : Int).tmod 14) = (z : Int) % 14 := Int.tmod_eq_emod_of_nonneg (by omega)
theorem tm6 {z : Nat} : ((z : Int).tmod 6) = (z : Int) % 6 := Int.tmod_eq_emod_of_nonneg (by omega)
/-- a list of spans as a block; a list as a month -/
abbrev spB (A : List (Int × Int)) : Blk := .cells (A.flatMap spG) 2 true true
def spAt (A : List (Int × Int)) (i : Nat) : Int × Int := A.getD i (0, 0)
theorem spAt_C (A : List (Int × Int)) : SpC (A.flatMap spG) 0 A.length (spAt A) := by
  intro i hi
  have hz : A[i]? = some (spAt A i) := by simp [spAt, hi]
  refine ⟨?_, ?_⟩
  · have := flat_get (g := spG) (k := 2) (fun _ => rfl) hz (j := 0) (by omega); simpa [spG] using this
  · have := flat_get (g := spG) (k := 2) (fun _ => rfl) hz (j := 1) (by omega); simpa [spG] using this
theorem k44 (h : List Blk) (b : Nat) (hb : h[b]? = some (.cells [iv 3, iv 4] 1 true true)) : callH LL 44 [sl b 0 2 2] h = some ⟨sl h.length 0 1 1, h ++ [.cells [iv 3, iv 4] 2 true true], [b], []⟩ := by
  refine callN_1 rfl hb noIdB_flat (args' := [sl 0 0 2 2]) (by simp [renV, dep, optAll, idx, nbeq]) (v := sl 1 0 1 1) (news := [.cells [iv 3, iv 4] 2 true true]) (go (by decide) ?_) (by intro blk hb; simp at hb; subst hb; exact noIdB_flat) (by simp [renV, dep])
  have l2 : lpB Try.prog LL ⟨44, 26, 1, none⟩ n44_8 n44_9 ⟨[(0, sl 0 0 2 2), (3, sl 1 0 1 1), (4, iv 2)], [.cells [iv 3, iv 4] 1 true true, .cells [iv 3, iv 4] 2 true true], []⟩ = some (.exit 0, ⟨[(3, sl 1 0 1 1)], [.cells [iv 3, iv 4] 1 true true, .cells [iv 3, iv 4] 2 true true], []⟩) := by
    rw [lpB_eq]
    simp (maxSteps := 1000000) (disch := first | omega | decide | assumption | simp [scal]) [lenA_sl lk_24, o_indexAddrS es_24, loadA_eq ia_3, za_55, o_build za_55 pl_55, o_indexAddrS es_22, ze_22, o_buildSlice es_22 ze_22 (by decide) ba_22_1, ap_22, builtin_append ni_22]
  have l1 : lpB Try.prog LL ⟨44, 26, 1, none⟩ n44_8 n44_9 ⟨[(0, sl 0 0 2 2), (3, sl 1 0 0 0), (4, iv 0)], [.cells [iv 3, iv 4] 1 true true, .cells [] 2 true true], []⟩ = some (.exit 0, ⟨[(3, sl 1 0 1 1)], [.cells [iv 3, iv 4] 1 true true, .cells [iv 3, iv 4] 2 true true], []⟩) := by
    have c1 := fun hp b c rd => app_list (h := hp) (b := b) (c := c) (k := 2) (by' := 16) (l := 0) (cs := []) (new := [iv 3, iv 4]) (rd := rd) rfl (by omega) (by omega) rfl
    rw [lpB_eq]
    simp (maxSteps := 1000000) (disch := first | omega | decide | assumption | simp [scal]) [lenA_sl lk_24, o_indexAddrS es_24, loadA_eq ia_3, za_55, o_build za_55 pl_55, o_indexAddrS es_22, ze_22, o_buildSlice es_22 ze_22 (by decide) ba_22_1, ap_22, builtin_append ni_22, append_some ap_22, srcCells, c1, l2]
  rw [run44 _ _ _ (by simp)]
  simp (maxSteps := 1000000) (disch := first | omega | decide | assumption | simp [scal]) [lenA_sl lk_24, o_indexAddrS es_24, loadA_eq ia_3, za_55, o_build za_55 pl_55, o_indexAddrS es_22, ze_22, o_buildSlice es_22 ze_22 (by decide) ba_22_1, ap_22, builtin_append ni_22, l1]
section
variable (off n c : Nat) {cs : List Value} {own : Bool} {g : Nat → Nat × Nat}
theorem l35 (hc : WeC cs off n g) : ∀ (q i : Nat), i + q = min n 5 →
    lpB Try.prog LL ⟨35, 43, 1, none⟩ n35_8 n35_9 ⟨[(0, sl 0 off n c), (3, sl 1 0 i i), (4, iv i)], [.cells cs 2 true own, spB ((List.range i).map (madD g))], []⟩ =
      some (.exit 0, ⟨[(3, sl 1 0 (min n 5) (min n 5))], [.cells cs 2 true own, spB ((List.range (min n 5)).map (madD g))], []⟩) := by
  intro q
  induction q with
  | zero =>
    intro i hi
    obtain rfl : i = min n 5 := by omega
    generalize (List.range (min n 5)).map (madD g) = F at *
    generalize hm : min n 5 = M at *
    rw [lpB_eq]
    by_cases e1 : M < n
    · have e2 : ¬ M < 5 := by omega
      have e3 : ¬ (M : Int) < 5 := by omega
      simp (maxSteps := 1000000) (disch := first | omega | decide | assumption | simp [scal]) [lenA_sl lk_47, o_indexAddrS es_47, o_indexAddrA ea_60, loadA_eq ia_5, o_convI cv_5_3, za_55, o_build za_55 pl_55, o_indexAddrS es_22, ze_22, o_buildSlice es_22 ze_22 (by decide) ba_22_1, ap_22, builtin_append ni_22, lenA_sl lk_22, o_indexAddrS es_24, ze_24, o_buildSlice es_24 ze_24 (by decide) ba_24_2, want_some q35_11g4, e1, e3]
    · simp (maxSteps := 1000000) (disch := first | omega | decide | assumption | simp [scal]) [lenA_sl lk_47, o_indexAddrS es_47, o_indexAddrA ea_60, loadA_eq ia_5, o_convI cv_5_3, za_55, o_build za_55 pl_55, o_indexAddrS es_22, ze_22, o_buildSlice es_22 ze_22 (by decide) ba_22_1, ap_22, builtin_append ni_22, lenA_sl lk_22, o_indexAddrS es_24, ze_24, o_buildSlice es_24 ze_24 (by decide) ba_24_2, want_some q35_11g4, e1]
  | succ q ih =>
    intro i hi
    have e1 : i < n := by omega
    have e3 : (i : Int) < 5 := by omega
    obtain ⟨⟨p1, p2⟩, g1, g2⟩ := hc _ e1
    have this := ih (i + 1) (by omega)
    have c1 := fun hp b c rd => app_list (h := hp) (b := b) (c := c) (k := 2) (by' := 16) (l := i) (cs := ((List.range i).map (madD g)).flatMap spG) (new := spG (madD g i)) (rd := rd) (by rw [flat_len (k := 2) (fun _ => rfl)]; simp) (by omega) (by omega) rfl
    simp only [spB] at this ⊢
    rw [List.range_succ, List.map_append, List.map_cons, List.map_nil, List.flatMap_append, List.flatMap_cons, List.flatMap_nil, List.append_nil] at this
    generalize (List.range (min n 5)).map (madD g) = F at *
    generalize ((List.range i).map (madD g)).flatMap spG = G at *
    rw [show spG (madD g i) = [iv (((g i).1 : Int) % 14), iv (((g i).1 : Int) % 14 + ((g i).2 : Int) % 6)] from rfl] at this c1
    generalize g i = y at *
    obtain ⟨y0, y1⟩ := y
    simp only [cast1] at this
    simp only [] at c1 p1 p2 g1 g2
    rw [lpB_eq]
    simp (maxSteps := 1000000) (disch := first | omega | decide | assumption | simp [scal]) [lenA_sl lk_47, o_indexAddrS es_47, o_indexAddrA ea_60, loadA_eq ia_5, o_convI cv_5_3, za_55, o_build za_55 pl_55, o_indexAddrS es_22, ze_22, o_buildSlice es_22 ze_22 (by decide) ba_22_1, ap_22, builtin_append ni_22, lenA_sl lk_22, o_indexAddrS es_24, ze_24, o_buildSlice es_24 ze_24 (by decide) ba_24_2, want_some q35_11g4, e1, e3, p1, p2, tm14, tm6, append_some ap_22, srcCells, c1, this]
variable (b : Nat) {h : List Blk} (hb : h[b]? = some (.cells cs 2 true own))
include hb
theorem k35 (hc : WeC cs off n g) : callH LL 35 [sl b off n c] h = some ⟨sl h.length 0 (madR g n).length (madR g n).length, h ++ [spB (madR g n)], [b], []⟩ := by
  refine callN_1 rfl hb noIdB_flat (args' := [sl 0 off n c]) (by simp [renV, dep, optAll, idx, nbeq]) (v := sl 1 0 (madR g n).length (madR g n).length) (news := [spB (madR g n)]) (go (by decide) ?_) (by intro blk hb; simp only [List.mem_singleton] at hb; subst hb; exact noIdB_flat) (by simp [renV, dep])
  have this := l35 off n c (own := own) hc (min n 5) 0 (by omega)
  simp only [spB, List.range_zero, List.map_nil, List.flatMap_nil, Int.natCast_zero] at this ⊢
  rw [run35 _ _ _ (by simp)]
  unfold madR
  by_cases h0 : n = 0
  · subst h0
    simp only [Nat.zero_min, List.range_zero, List.map_nil, List.flatMap_nil] at this
    have a := fun b0 b1 bx => k44 (b0 :: b1 :: .cells [iv 3, iv 4] 1 true true :: bx) 2 rfl
    simp (maxSteps := 1000000) (disch := first | omega | decide | assumption | simp [scal]) [lenA_sl lk_47, o_indexAddrS es_47, o_indexAddrA ea_60, loadA_eq ia_5, o_convI cv_5_3, za_55, o_build za_55 pl_55, o_indexAddrS es_22, ze_22, o_buildSlice es_22 ze_22 (by decide) ba_22_1, ap_22, builtin_append ni_22, lenA_sl lk_22, o_indexAddrS es_24, ze_24, o_buildSlice es_24 ze_24 (by decide) ba_24_2, want_some q35_11g4, this, a]
  · have hm : 0 < min n 5 := by omega
    have hm' : ¬ ((min n 5 : Nat) : Int) = 0 := by omega
    rw [if_neg h0]
    have hl : ((List.range (min n 5)).map (madD g)).length = min n 5 := by simp
    rw [hl]
    generalize (List.range (min n 5)).map (madD g) = F at *
    generalize min n 5 = M at *
    have h0' : ¬ M = 0 := by omega
    simp (maxSteps := 1000000) (disch := first | omega | decide | assumption | simp [scal]) [lenA_sl lk_47, o_indexAddrS es_47, o_indexAddrA ea_60, loadA_eq ia_5, o_convI cv_5_3, za_55, o_build za_55 pl_55, o_indexAddrS es_22, ze_22, o_buildSlice es_22 ze_22 (by decide) ba_22_1, ap_22, builtin_append ni_22, lenA_sl lk_22, o_indexAddrS es_24, ze_24, o_buildSlice es_24 ze_24 (by decide) ba_24_2, want_some q35_11g4, this, hm', h0']
end
end Go.Proofs.Ytfccmddkblbeoaa.rk
namespace Go.Proofs.Ytfccmddkblbeoaa.rk
open Go.GE
set_option linter.unusedVariables false
set_option linter.unusedSimpArgs false
set_option linter.unusedSectionVars false
set_option maxRecDepth 100000
set_option maxHeartbeats 4000000
/-- numbers as cells -/
def nm (L : List Nat) : List Value := L.map fun (x : Nat) => iv x
theorem nm_len {L : List Nat} : (nm L).length = L.length := by simp [nm]
theorem nm_app {L M : List Nat} : nm (L ++ M) = nm L ++ nm M := by simp [nm]
theorem nm_one {x : Nat} : nm [x] = [iv x] := rfl
theorem nm_nil : nm [] = [] := rfl
theorem nm_get {L : List Nat} {i : Nat} (h : i < L.length) : (nm L)[i]? = some (iv (L.getD i 0)) := by simp [nm, h]
def ntAt (L : List Nat) (i : Nat) : Int := (L.getD i 0 : Nat)
theorem nm_C (L : List Nat) : InC (nm L) 0 L.length (ntAt L) := by
  intro i hi
  rw [Nat.zero_add]
  exact nm_get hi
abbrev nB (L : List Nat) : Blk := .cells (nm L) 1 true true
/-- cells of bytes -/
def ByC (cs : List Value) (off m : Nat) (g : Nat → Nat) : Prop := ∀ i, i < m → cs[off + i]? = some (uv (g i)) ∧ g i < 256
end Go.Proofs.Ytfccmddkblbeoaa.rk
namespace Go.Proofs.Ytfccmddkblbeoaa.rk
open Go.GE
set_option linter.unusedVariables false
set_option linter.unusedSimpArgs false
set_option linter.unusedSectionVars false
set_option maxRecDepth 100000
set_option maxHeartbeats 4000000
def mx (a b : Int) : Int := if a < b then b else a
/-- whether ranges can rise along an order, from the i-th day on -/
def risL (l : Nat → Int × Int) (o : Nat → Int) : Nat → Nat → Int → Bool
  | 0, _, _ => true
  | k + 1, i, last => if (l (o i).toNat).2 < mx last (l (o i).toNat).1 then false else risL l o k (i + 1) (mx last (l (o i).toNat).1)
theorem ris_iff {l : Nat → Int × Int} {o : Nat → Int} : ∀ (k i : Nat) (last : Int), risL l o k i last = true ↔ (∀ j, i ≤ j → j < i + k → last ≤ (l (o j).toNat).2) ∧ ∀ j j', i ≤ j → j ≤ j' → j' < i + k → (l (o j).toNat).1 ≤ (l (o j').toNat).2 := by
  intro k
  induction k with
  | zero => intro i last; simp only [risL, true_iff]; exact ⟨fun j h1 h2 => by omega, fun j j' h1 h2 h3 => by omega⟩
  | succ k ih =>
    intro i last
    unfold risL
    have hmx : ∀ a b z : Int, mx a b ≤ z ↔ a ≤ z ∧ b ≤ z := by intro a b z; unfold mx; split <;> omega
    by_cases h : (l (o i).toNat).2 < mx last (l (o i).toNat).1
    · rw [if_pos h]
      simp only [Bool.false_eq_true, false_iff]
      rintro ⟨h1, h2⟩
      have a1 := h1 i (by omega) (by omega)
      have a2 := h2 i i (by omega) (by omega) (by omega)
      have := (hmx last (l (o i).toNat).1 (l (o i).toNat).2).2 ⟨a1, a2⟩
      omega
    · rw [if_neg h, ih]
      have h' := (hmx last (l (o i).toNat).1 (l (o i).toNat).2).1 (by omega)
      constructor
      · rintro ⟨h1, h2⟩
        refine ⟨fun j a1 a2 => ?_, fun j j' a1 a2 a3 => ?_⟩
        · by_cases hj : j = i
          · subst hj; exact h'.1
          · exact ((hmx _ _ _).1 (h1 j (by omega) (by omega))).1
        · by_cases hj : j = i
          · subst hj
            by_cases hj' : j' = j
            · subst hj'; exact h'.2
            · exact ((hmx _ _ _).1 (h1 j' (by omega) (by omega))).2
          · exact h2 j j' (by omega) a2 (by omega)
      · rintro ⟨h1, h2⟩
        exact ⟨fun j a1 a2 => (hmx _ _ _).2 ⟨h1 j (by omega) (by omega), h2 i j (by omega) (by omega) (by omega)⟩, fun j j' a1 a2 a3 => h2 j j' (by omega) a2 (by omega)⟩
theorem fltQ_iff {l : Nat → Int × Int} {o : Nat → Int} {p : Nat} : ∀ (k q : Nat), (fltQ l o p k q = none ∧ ∀ j, q ≤ j → j < q + k → quiet l (o j).toNat (o p).toNat = false) ∨ ∃ r, fltQ l o p k q = some r ∧ q ≤ r ∧ r < q + k ∧ quiet l (o r).toNat (o p).toNat = true ∧ ∀ j, q ≤ j → j < r → quiet l (o j).toNat (o p).toNat = false := by
  intro k
  induction k with
  | zero => intro q; exact .inl ⟨rfl, fun j h1 h2 => by omega⟩
  | succ k ih =>
    intro q
    unfold fltQ
    cases h : quiet l (o q).toNat (o p).toNat
    · rw [if_neg (by decide)]
      rcases ih (q + 1) with ⟨h1, h2⟩ | ⟨r, h1, h2, h3, h4, h5⟩
      · refine .inl ⟨h1, fun j a1 a2 => ?_⟩
        by_cases hj : j = q
        · subst hj; exact h
        · exact h2 j (by omega) (by omega)
      · refine .inr ⟨r, h1, by omega, by omega, h4, fun j a1 a2 => ?_⟩
        by_cases hj : j = q
        · subst hj; exact h
        · exact h5 j (by omega) (by omega)
    · rw [if_pos rfl]
      exact .inr ⟨q, rfl, by omega, by omega, h, fun j a1 a2 => by omega⟩
theorem fltP_iff {l : Nat → Int × Int} {o : Nat → Int} {m : Nat} : ∀ (k p : Nat), p + k = m → (fltP l o m k p = none ∧ ∀ i j, p ≤ i → i < j → j < m → quiet l (o j).toNat (o i).toNat = false) ∨
    ∃ r s, fltP l o m k p = some (r, s) ∧ p ≤ r ∧ r < s ∧ s < m ∧ quiet l (o s).toNat (o r).toNat = true ∧ ∀ i j, p ≤ i → i < j → j < m → (i < r ∨ i = r ∧ j < s) → quiet l (o j).toNat (o i).toNat = false := by
  intro k
  induction k with
  | zero => intro p hp; exact .inl ⟨rfl, fun i j h1 h2 h3 => by omega⟩
  | succ k ih =>
    intro p hp
    unfold fltP
    rcases fltQ_iff (l := l) (o := o) (p := p) (m - (p + 1)) (p + 1) with ⟨h1, h2⟩ | ⟨r, h1, h2, h3, h4, h5⟩
    · rw [h1]
      rcases ih (p + 1) (by omega) with ⟨g1, g2⟩ | ⟨r, s, g1, g2, g3, g4, g5, g6⟩
      · refine .inl ⟨g1, fun i j a1 a2 a3 => ?_⟩
        by_cases hi : i = p
        · subst hi; exact h2 j (by omega) (by omega)
        · exact g2 i j (by omega) a2 a3
      · refine .inr ⟨r, s, g1, by omega, g3, g4, g5, fun i j a1 a2 a3 a4 => ?_⟩
        by_cases hi : i = p
        · subst hi; exact h2 j (by omega) (by omega)
        · exact g6 i j (by omega) a2 a3 a4
    · rw [h1]
      refine .inr ⟨p, r, rfl, by omega, by omega, by omega, h4, fun i j a1 a2 a3 a4 => ?_⟩
      obtain rfl : i = p := by omega
      exact h5 j (by omega) (by omega)
/-- spans that make a month -/
def OkM (A : List (Int × Int)) : Prop := 1 ≤ A.length ∧ A.length ≤ 30 ∧ ∀ a ∈ A, 0 ≤ a.1 ∧ a.1 ≤ a.2 ∧ a.2 ≤ 100000
theorem madR_ok {g : Nat → Nat × Nat} {n : Nat} : 1 ≤ (madR g n).length ∧ (madR g n).length ≤ 5 ∧ ∀ a ∈ madR g n, 0 ≤ a.1 ∧ a.1 ≤ a.2 ∧ a.2 < 19 := by
  unfold madR
  split
  · simp
  · refine ⟨by simp; omega, by simp; omega, fun a ha => ?_⟩
    obtain ⟨i, _, rfl⟩ := List.mem_map.1 ha
    simp only [madD]
    omega
theorem OkM.at {A : List (Int × Int)} (H : OkM A) {i : Nat} (hi : i < A.length) : 0 ≤ (spAt A i).1 ∧ (spAt A i).1 ≤ (spAt A i).2 ∧ (spAt A i).2 ≤ 100000 := by
  have e : spAt A i = A[i] := by simp [spAt, hi]
  rw [e]
  exact H.2.2 _ (List.getElem_mem hi)
theorem OkM.chk {A : List (Int × Int)} (H : OkM A) : chkS (spAt A) A.length = 0 := by
  obtain ⟨h1, h2, h3⟩ := H
  unfold chkS
  rw [if_neg (by omega), if_neg (by omega), if_neg]
  have : anyB (spAt A) A.length 0 = false := any_iff.2 fun i hi => by
    have := OkM.at ⟨h1, h2, h3⟩ hi
    unfold bad
    simp only [Bool.or_eq_false_iff, Bool.not_eq_false', Bool.and_eq_true, decide_eq_true_eq, decide_eq_false_iff_not]
    omega
  rw [this]; decide
theorem madR_M {g : Nat → Nat × Nat} {n : Nat} : OkM (madR g n) := by
  obtain ⟨h1, h2, h3⟩ := madR_ok (g := g) (n := n)
  exact ⟨h1, by omega, fun a ha => by have := h3 a ha; omega⟩
/-- an order of all days -/
theorem perm_ord {O : List Nat} {n : Nat} (h : O.Perm (List.range n)) : ordL (ntAt O) n n 0 = 0 ∧ ∀ j, j < n → 0 ≤ ntAt O j ∧ ntAt O j < n := by
  have hl : O.length = n := by have := h.length_eq; simpa using this
  have hmem : ∀ j, j < n → O.getD j 0 < n := fun j hj => by
    have e : O.getD j 0 = O[j] := by simp [hl, hj]
    rw [e]
    have := h.mem_iff.1 (List.getElem_mem (l := O) (n := j) (by omega))
    simpa using this
  have hnd : O.Nodup := h.nodup_iff.2 List.nodup_range
  have key : ∀ k i, i + k = n → ordL (ntAt O) n k i = 0 := by
    intro k
    induction k with
    | zero => intro i _; rfl
    | succ k ih =>
      intro i hi
      unfold ordL
      have h1 := hmem i (by omega)
      rw [if_neg (by unfold ntAt; generalize O.getD i 0 = z at *; simp; omega), if_neg, ih (i + 1) (by omega)]
      rw [seen_iff]
      rintro ⟨p, a1, a2, a3⟩
      have e1 : O.getD p 0 = O[p] := by simp [show p < O.length by omega]
      have e2 : O.getD i 0 = O[i] := by simp [show i < O.length by omega]
      unfold ntAt at a3
      rw [e1, e2] at a3
      have := (List.getElem_inj (h₀ := show p < O.length by omega) (h₁ := show i < O.length by omega) hnd).1 (by omega)
      omega
  exact ⟨key n 0 (by omega), fun j hj => by have := hmem j hj; unfold ntAt; omega⟩
end Go.Proofs.Ytfccmddkblbeoaa.rk
namespace Go.Proofs.Ytfccmddkblbeoaa.rk
open Go.GE
set_option linter.unusedVariables false
set_option linter.unusedSimpArgs false
set_option linter.unusedSectionVars false
set_option maxRecDepth 100000
set_option maxHeartbeats 4000000
/-- a month and an order of its days -/
structure MO (A : List (Int × Int)) (O : List Nat) (n : Nat) : Prop where
  ha : OkM A
  la : A.length = n
  lo : O.length = n
  n5 : n ≤ 5
  hp : O.Perm (List.range n)
theorem MO.lt {A : List (Int × Int)} {O : List Nat} {n : Nat} (S : MO A O n) {i : Nat} (hi : i < n) : O.getD i 0 < n := by
  have := ((perm_ord S.hp).2 i hi).2
  unfold ntAt at this
  omega
/-- the j-th day of an order is surely quieter than the i-th -/
def qt (A : List (Int × Int)) (O : List Nat) (j i : Nat) : Bool := quiet (spAt A) (O.getD j 0) (O.getD i 0)
theorem ord_eq {A : List (Int × Int)} {O : List Nat} {n : Nat} (S : MO A O n) : ordS (spAt A) n (ntAt O) n = 0 := by
  unfold ordS
  have := S.ha.chk
  rw [S.la] at this
  rw [if_neg (by simp [this]), if_neg (by simp), (perm_ord S.hp).1]
theorem ris_eq {A : List (Int × Int)} {O : List Nat} {n : Nat} (S : MO A O n) : risL (spAt A) (ntAt O) n 0 0 = true ↔ ∀ i j, i < j → j < n → qt A O j i = false := by
  rw [ris_iff]
  have hz : ∀ j, (ntAt O j).toNat = O.getD j 0 := fun j => Int.toNat_natCast _
  have ok : ∀ j, j < n → 0 ≤ (spAt A (O.getD j 0)).1 ∧ (spAt A (O.getD j 0)).1 ≤ (spAt A (O.getD j 0)).2 := fun j hj => by
    have := S.ha.at (i := O.getD j 0) (by rw [S.la]; exact S.lt hj)
    omega
  simp only [hz, qt, quiet, decide_eq_false_iff_not]
  constructor
  · rintro ⟨_, h⟩ i j h1 h2
    have := h i j (by omega) (by omega) (by omega)
    omega
  · intro h
    refine ⟨fun j _ h2 => by have := ok j (by omega); omega, fun j j' _ h2 h3 => ?_⟩
    by_cases hj : j = j'
    · subst hj; exact (ok j (by omega)).2
    · have := h j j' (by omega) (by omega); omega
theorem flt_eq {A : List (Int × Int)} {O : List Nat} {n : Nat} (S : MO A O n) : (fltP (spAt A) (ntAt O) n n 0 = none ∧ risL (spAt A) (ntAt O) n 0 0 = true) ∨
    ∃ r s, fltP (spAt A) (ntAt O) n n 0 = some (r, s) ∧ risL (spAt A) (ntAt O) n 0 0 = false ∧ r < s ∧ s < n ∧ qt A O s r = true ∧ ∀ i j, i < j → j < n → (i < r ∨ i = r ∧ j < s) → qt A O j i = false := by
  have hz : ∀ j, (ntAt O j).toNat = O.getD j 0 := fun j => Int.toNat_natCast _
  rcases fltP_iff (l := spAt A) (o := ntAt O) (m := n) n 0 (by omega) with ⟨h1, h2⟩ | ⟨r, s, h1, _, h2, h3, h4, h5⟩
  · refine .inl ⟨h1, (ris_eq S).2 fun i j a b => ?_⟩
    have := h2 i j (by omega) a b
    rw [hz, hz] at this
    exact this
  · simp only [hz] at h4 h5
    refine .inr ⟨r, s, h1, ?_, h2, h3, h4, fun i j a b c => h5 i j (by omega) a b c⟩
    cases hr : risL (spAt A) (ntAt O) n 0 0
    · rfl
    · have := (ris_eq S).1 hr r s h2 h3
      unfold qt at this
      rw [h4] at this
      exact this
end Go.Proofs.Ytfccmddkblbeoaa.rk
namespace Go.Proofs.Ytfccmddkblbeoaa.rk
open Go.GE
set_option linter.unusedVariables false
set_option linter.unusedSimpArgs false
set_option linter.unusedSectionVars false
set_option maxRecDepth 100000
set_option maxHeartbeats 4000000
section
open Go.ChangeShapes Go.WideShapes Go.RowKit
variable {H : Type} {enc : TypeId × Value → H} {W : World} {base b0 : Nat} {v : Value} {d : DataW H} {p : List MemPlace}
def weOf (zs : List (List Int)) (i : Nat) : Nat × Nat := (((zs.getD i []).getD 0 0).toNat, ((zs.getD i []).getD 1 0).toNat)
def byOf (zs : List (List Int)) (i : Nat) : Nat := ((zs.getD i []).getD 0 0).toNat
theorem we_flat {zs : List (List Int)} (h : ∀ z ∈ zs, wfs [.u8, .u8] z) : WeC (zs.flatMap (ints [.u8, .u8])) 0 zs.length (weOf zs) := by
  have e : zs.flatMap (ints [.u8, .u8]) = zs.flatMap fun z => [uv (z.getD 0 0).toNat, uv (z.getD 1 0).toNat] := by
    induction zs with
    | nil => rfl
    | cons z zs ih =>
      have h0 := h z (by simp)
      have h1 := h0.1
      have h2 : wfs (List.replicate 2 .u8) z := h0
      match z, h1, h2 with
      | [a, b], _, h2 =>
        obtain ⟨x, rfl, _⟩ := nat_of (b := 255) (u8_wf (wfs_get h2 (z := a) (by simp)))
        obtain ⟨y, rfl, _⟩ := nat_of (b := 255) (u8_wf (wfs_get h2 (z := b) (by simp)))
        rw [List.flatMap_cons, List.flatMap_cons, ih fun z hz => h z (by simp [hz])]; rfl
  have hb : ∀ i, i < zs.length → (weOf zs i).1 < 256 ∧ (weOf zs i).2 < 256 := fun i hi => by
    have hm := h _ (List.getElem_mem hi)
    have h1 := hm.1
    have h2 : wfs (List.replicate 2 .u8) zs[i] := hm
    have e : zs.getD i [] = zs[i] := by simp [hi]
    unfold weOf
    rw [e]
    generalize zs[i] = z at *
    match z, h1, h2 with
    | [a, b], _, h2 =>
      have := u8_wf (wfs_get h2 (z := a) (by simp))
      have := u8_wf (wfs_get h2 (z := b) (by simp))
      simp only [List.getD_cons_zero, List.getD_cons_succ]
      omega
  rw [e]
  intro i hi
  have hz : zs[i]? = some (zs.getD i []) := by simp [hi]
  refine ⟨⟨?_, ?_⟩, hb i hi⟩
  · have := flat_get (g := fun z : List Int => [uv (z.getD 0 0).toNat, uv (z.getD 1 0).toNat]) (k := 2) (fun _ => rfl) hz (j := 0) (by omega)
    rw [Nat.add_zero] at this
    rw [Nat.zero_add, this]; rfl
  · have := flat_get (g := fun z : List Int => [uv (z.getD 0 0).toNat, uv (z.getD 1 0).toNat]) (k := 2) (fun _ => rfl) hz (j := 1) (by omega)
    rw [Nat.zero_add, this]; rfl
theorem by_flat {zs : List (List Int)} (h : ∀ z ∈ zs, wfs [.u8] z) : ByC (zs.flatMap (ints [.u8])) 0 zs.length (byOf zs) := by
  have e : zs.flatMap (ints [.u8]) = zs.flatMap fun z => [uv (z.getD 0 0).toNat] := by
    induction zs with
    | nil => rfl
    | cons z zs ih =>
      have h0 := h z (by simp)
      have h1 := h0.1
      have h2 : wfs (List.replicate 1 .u8) z := h0
      match z, h1, h2 with
      | [a], _, h2 =>
        obtain ⟨x, rfl, _⟩ := nat_of (b := 255) (u8_wf (wfs_get h2 (z := a) (by simp)))
        rw [List.flatMap_cons, List.flatMap_cons, ih fun z hz => h z (by simp [hz])]; rfl
  have hb : ∀ i, i < zs.length → byOf zs i < 256 := fun i hi => by
    have hm := h _ (List.getElem_mem hi)
    have h1 := hm.1
    have h2 : wfs (List.replicate 1 .u8) zs[i] := hm
    have e : zs.getD i [] = zs[i] := by simp [hi]
    unfold byOf
    rw [e]
    generalize zs[i] = z at *
    match z, h1, h2 with
    | [a], _, h2 =>
      have := u8_wf (wfs_get h2 (z := a) (by simp))
      simp only [List.getD_cons_zero]
      omega
  rw [e]
  intro i hi
  have hz : zs[i]? = some (zs.getD i []) := by simp [hi]
  refine ⟨?_, hb i hi⟩
  have := flat_get (g := fun z : List Int => [uv (z.getD 0 0).toNat]) (k := 1) (fun _ => rfl) hz (j := 0) (by omega)
  rw [Nat.mul_one, Nat.add_zero] at this
  rw [Nat.zero_add, this]; rfl
/-- a weather as it is handed over -/
theorem open_weather (hv : Value.okWide Try.prog W .any b0 47 v) (hd : DataW.Trod enc Try.prog W base (fun _ => true) true 47 v d p) :
    ∃ (n : Nat) (cs : List Value) (g : Nat → Nat × Nat) (mb : Option MB), WeC cs 0 n g ∧ WinO W mb (.cells cs 2 true false) ∧ ∀ (m : Mp) b, m b = mb → VR m (sl b 0 n n) v := by
  obtain ⟨zs, mb, hw, hvr, hz, _⟩ := open_param_flat (ks := [.u8, .u8]) (d := 5) Try.underlying47 (by kernel_rfl) (by kernel_rfl) (by decide) hv hd
  exact ⟨zs.length, _, weOf zs, mb, we_flat hz, hw, hvr⟩
theorem open_bytes (hv : Value.okWide Try.prog W .any b0 53 v) (hd : DataW.Trod enc Try.prog W base (fun _ => true) true 53 v d p) :
    ∃ (n : Nat) (cs : List Value) (g : Nat → Nat) (mb : Option MB), ByC cs 0 n g ∧ WinO W mb (.cells cs 1 true false) ∧ ∀ (m : Mp) b, m b = mb → VR m (sl b 0 n n) v := by
  obtain ⟨zs, mb, hw, hvr, hz, _⟩ := open_param_flat (ks := [.u8]) (d := 5) Try.underlying53 (by kernel_rfl) (by kernel_rfl) (by decide) hv hd
  exact ⟨zs.length, _, byOf zs, mb, by_flat hz, hw, hvr⟩
theorem open_u8 (hv : Value.okWide Try.prog W .any b0 5 v) (hd : DataW.Trod enc Try.prog W base (fun _ => true) true 5 v d p) : ∃ n : Nat, v = uv n ∧ n < 256 := by
  obtain ⟨y, rfl, _, _, h⟩ := open_int (show Try.prog.underlying 5 = some (.int .u8) from by kernel_rfl) hv hd
  obtain ⟨n, rfl, hn⟩ := nat_of (b := 255) (u8_wf h)
  exact ⟨n, rfl, hn⟩
end
end Go.Proofs.Ytfccmddkblbeoaa.rk
namespace Go.Proofs.Ytfccmddkblbeoaa.rk
open Go.GE
set_option linter.unusedVariables false
set_option linter.unusedSimpArgs false
set_option linter.unusedSectionVars false
set_option maxRecDepth 100000
set_option maxHeartbeats 4000000
attribute [local simp] runOps_nil runOps_cons runOpsF_nil runOpsF_cons fstS_some fstF_some opStep_eq want_none oStep_true oStep_false fin_pure fin_read fin_alloc fin_write storeB wrN cellV addWr o_move o_assign o_pick o_alloc o_box o_load o_store o_nilCheck o_bin o_un o_extract o_callV o_callB o_callI callV_f callV_y callV_fc o_makeFunc partsA Instr.fill builtin_len builtin_max2 bin_add bin_sub bin_mul bin_quo bin_rem bin_lss bin_leq bin_gtr bin_geq bin_eql bin_neq un_neg un_not bin_shr bin_shl wrap_u64_id opd opds optAll putO nbeq nblt constOk isC ops sub cl cr co bodyOf thenS_normal thenS_ret thenS_exit thenS_goto afterN_normal afterN_ret afterN_exit afterN_goto condS_true condS_false blockS_normal blockS_ret blockS_exit blockS_goto headS normS normK_eq fixS_nil fixS_cons fix1 fixV emptyB keepO_nil keepO_cons roundC_normal roundC_exit roundC_ret roundC_goto sweep_eq sweepD rnm pickR pickW rootsB ptrT renT ptrFn renFn ptrB_flat ptrB_non renB_flat renB_non plainS_some drawS_some fpsOk disj unord range' dropTo enumT undef wrap_i64_id Value.cells mkCells ptrTo scal cellsAt rdN endS_ret resultsA Option.bind_some tupV finish reachN dep ptrL_eq ptrL renL_eq renL ptrV_bool ptrV_int ptrV_string ptrV_nilFunc ptrV_nilIface ptrV_nilPtr ptrV_ptr ptrV_nilSl ptrV_sl ptrV_iface ptrV_agg ptrV_tuple ptrV_func renV_bool renV_int renV_string renV_nilFunc renV_nilIface renV_nilPtr renV_ptr renV_nilSl renV_sl renV_iface renV_agg renV_tuple renV_func gotoS_goto gotoS_normal gotoS_exit gotoS_ret skip_seq sliceE bnd bndHi intOf optOpd keepT_nil keepT_cons keepC_t keepC_f lk_nil lk_cons lkC_t lkC_f has_nil has_cons hasC_t hasC_f rep_nil rep_cons repC_t repC_f put_eq putC_t putC_f mem_nil mem_cons memC_t memC_f idx_nil idx_cons idxC_t idxC_f reach_nil reach_cons reachC_t reachC_f
attribute [local simp] n56_1s n56_3s n56_6s n56_10s n56_13s n56_14s n56_12s n56_18s n56_21s n56_23s n56_24s n56_22s n56_20s n56_26s n56_28s n56_29s n56_27s n56_25s n56_19s n56_17s n56_16s n56_30s n56_15s n56_11s n56_9s n56_8s n56_8g n56_7s n56_5s n56_32s n56_33s n56_31s n56_4s n56_2s n56_0s Try.f56 n17_1s n17_4s n17_6s n17_9s n17_10s n17_8s n17_11s n17_7s n17_5s n17_3s n17_13s n17_16s n17_20s n17_23s n17_24s n17_22s n17_28s n17_29s n17_27s n17_26s n17_30s n17_25s n17_21s n17_19s n17_18s n17_18g n17_17s n17_15s n17_32s n17_33s n17_31s n17_14s n17_12s n17_2s n17_0s Try.f17
/-- ranks of a day, k days still to be looked at -/
def rkA (l : Nat → Int × Int) (i : Nat) : Nat → Nat → Int → Int → Int × Int
  | 0, _, a, b => (a, b)
  | k + 1, j, a, b => rkA l i k (j + 1) (if quiet l j i = true then a + 1 else a) (if quiet l i j = true then b - 1 else b)
def rkS (l : Nat → Int × Int) (n i : Nat) : Int × Int := rkA l i n 0 1 n
def rkR (l : Nat → Int × Int) (n : Nat) : List (Int × Int) := (List.range n).map (rkS l n)
section
variable (off n c : Nat) {cs : List Value} {own : Bool} {l : Nat → Int × Int}
theorem l56 (hc : SpC cs off n l) (hn : n ≤ 30) (i : Nat) (hi : i < n) : ∀ (k j : Nat) (a b : Int), j + k = n → 0 ≤ a → a ≤ 1 + j → 0 ≤ b + j → b ≤ 30 →
    lpB Try.prog LL ⟨56, 33, 1, none⟩ n56_8 n56_9 ⟨[(0, sl 0 off n c), (1, iv i), (4, pp 1), (5, pp 2), (11, iv n), (12, iv j)], [.cells cs 2 true own, .cells [iv 0, iv 0] 1 true true, .cells [iv a, iv b] 1 true true], []⟩ =
      some (.exit 0, ⟨[(4, pp 1), (5, pp 2)], [.cells cs 2 true own, .cells [iv 0, iv 0] 1 true true, .cells [iv (rkA l i k j a b).1, iv (rkA l i k j a b).2] 1 true true], []⟩) := by
  intro k
  induction k with
  | zero =>
    intro j a b hj h1 h2 h3 h4
    obtain rfl : j = n := by omega
    rw [lpB_eq]
    simp (maxSteps := 1000000) (disch := first | omega | decide | assumption | simp [scal]) [za_55, lenA_sl lk_78, o_build za_55 pl_55, sz_55, o_fieldAddr fa_55_0 (by decide), loadA_eq ia_3, sz_3, o_fieldAddr fa_55_1 (by decide), loadA_eq ia_55, rkA]
  | succ k ih =>
    intro j a b hj h1 h2 h3 h4
    have e1 : j < n := by omega
    have e1' : (j : Int) < n := by omega
    have a1 := fun bx => k77 0 off n c (h := .cells cs 2 true own :: bx) rfl hc j i e1 hi
    have a2 := fun bx => k77 0 off n c (h := .cells cs 2 true own :: bx) rfl hc i j hi e1
    unfold rkA
    rw [lpB_eq]
    cases q1 : quiet l j i <;> cases q2 : quiet l i j <;> rw [q1] at a1 <;> rw [q2] at a2 <;> simp only [Bool.false_eq_true, if_false, if_true]
    · have this := ih (j + 1) a b (by omega) h1 (by omega) (by omega) h4
      simp only [cast1] at this
      simp (maxSteps := 1000000) (disch := first | omega | decide | assumption | simp [scal]) [za_55, lenA_sl lk_78, o_build za_55 pl_55, sz_55, o_fieldAddr fa_55_0 (by decide), loadA_eq ia_3, sz_3, o_fieldAddr fa_55_1 (by decide), loadA_eq ia_55, e1, e1', a1, a2, this]
    · have this := ih (j + 1) a (b - 1) (by omega) h1 (by omega) (by omega) (by omega)
      simp only [cast1] at this
      simp (maxSteps := 1000000) (disch := first | omega | decide | assumption | simp [scal]) [za_55, lenA_sl lk_78, o_build za_55 pl_55, sz_55, o_fieldAddr fa_55_0 (by decide), loadA_eq ia_3, sz_3, o_fieldAddr fa_55_1 (by decide), loadA_eq ia_55, e1, e1', a1, a2, this]
    · have this := ih (j + 1) (a + 1) b (by omega) (by omega) (by omega) (by omega) h4
      simp only [cast1] at this
      simp (maxSteps := 1000000) (disch := first | omega | decide | assumption | simp [scal]) [za_55, lenA_sl lk_78, o_build za_55 pl_55, sz_55, o_fieldAddr fa_55_0 (by decide), loadA_eq ia_3, sz_3, o_fieldAddr fa_55_1 (by decide), loadA_eq ia_55, e1, e1', a1, a2, this]
    · have this := ih (j + 1) (a + 1) (b - 1) (by omega) (by omega) (by omega) (by omega) (by omega)
      simp only [cast1] at this
      simp (maxSteps := 1000000) (disch := first | omega | decide | assumption | simp [scal]) [za_55, lenA_sl lk_78, o_build za_55 pl_55, sz_55, o_fieldAddr fa_55_0 (by decide), loadA_eq ia_3, sz_3, o_fieldAddr fa_55_1 (by decide), loadA_eq ia_55, e1, e1', a1, a2, this]
end
section
variable (b off n c : Nat) {cs : List Value} {own : Bool} {l : Nat → Int × Int} {h : List Blk} (hb : h[b]? = some (.cells cs 2 true own)) (hc : SpC cs off n l)
include hb hc
theorem k56 (hn : n ≤ 30) (i : Nat) (hi : i < n) : callH LL 56 [sl b off n c, iv i] h = some ⟨.agg #[iv (rkS l n i).1, iv (rkS l n i).2], h, [b], []⟩ := by
  refine callH_1 rfl hb noIdB_flat (args' := [sl 0 off n c, iv i]) (by simp [renV, dep, optAll, idx, nbeq]) (go (by decide) ?_) fun _ => rfl
  have this := l56 off n c (own := own) hc hn i hi n 0 1 n (by omega) (by omega) (by omega) (by omega) (by omega)
  simp only [Int.natCast_zero] at this
  unfold rkS
  generalize rkA l i n 0 1 n = z at *
  obtain ⟨z1, z2⟩ := z
  rw [run56 _ _ _ (by simp)]
  simp (maxSteps := 1000000) (disch := first | omega | decide | assumption | simp [scal]) [za_55, lenA_sl lk_78, o_build za_55 pl_55, sz_55, o_fieldAddr fa_55_0 (by decide), loadA_eq ia_3, sz_3, o_fieldAddr fa_55_1 (by decide), loadA_eq ia_55, this]
end
theorem chk_ok {l : Nat → Int × Int} {n : Nat} (h : chkS l n = 0) : 0 < n ∧ n ≤ 30 := by
  unfold chkS at h
  by_cases h0 : n = 0
  · rw [if_pos h0] at h; omega
  · rw [if_neg h0] at h
    by_cases h2 : 30 < n
    · rw [if_pos h2] at h; omega
    · omega
section
variable (off n c : Nat) {cs : List Value} {own : Bool} {l : Nat → Int × Int}
theorem l17 (hc : SpC cs off n l) (hn : n ≤ 30) : ∀ (k i : Nat), i + k = n →
    lpB Try.prog LL ⟨17, 25, 1, none⟩ n17_18 n17_19 ⟨[(0, sl 0 off n c), (5, sl 1 0 i i), (13, iv n), (14, iv i)], [.cells cs 2 true own, spB ((List.range i).map (rkS l n))], []⟩ =
      some (.exit 0, ⟨[(5, sl 1 0 n n)], [.cells cs 2 true own, spB (rkR l n)], []⟩) := by
  intro k
  induction k with
  | zero =>
    intro i hi
    obtain rfl : i = n := by omega
    simp only [spB, rkR]
    generalize ((List.range i).map (rkS l i)).flatMap spG = F
    rw [lpB_eq]
    simp (maxSteps := 1000000) (disch := first | omega | decide | assumption | simp [scal]) [lenA_sl lk_22, o_indexAddrS es_22, ze_22, o_buildSlice es_22 ze_22 (by decide) ba_22_1, ap_22, builtin_append ni_22]
  | succ k ih =>
    intro i hi
    have e1 : (i : Int) < n := by omega
    have a1 := fun bx => k56 0 off n c (h := .cells cs 2 true own :: bx) rfl hc hn i (by omega)
    have this := ih (i + 1) (by omega)
    have c1 := fun hp b c rd => app_list (h := hp) (b := b) (c := c) (k := 2) (by' := 16) (l := i) (cs := ((List.range i).map (rkS l n)).flatMap spG) (new := spG (rkS l n i)) (rd := rd) (by rw [flat_len (k := 2) (fun _ => rfl)]; simp) (by omega) (by omega) rfl
    simp only [spB] at this ⊢
    rw [List.range_succ, List.map_append, List.map_cons, List.map_nil, List.flatMap_append, List.flatMap_cons, List.flatMap_nil, List.append_nil] at this
    generalize (rkR l n).flatMap spG = F at *
    generalize ((List.range i).map (rkS l n)).flatMap spG = G at *
    simp only [spG] at this c1
    generalize rkS l n i = z at *
    obtain ⟨z1, z2⟩ := z
    simp only [cast1] at this
    simp only [] at c1
    rw [lpB_eq]
    simp (maxSteps := 1000000) (disch := first | omega | decide | assumption | simp [scal]) [lenA_sl lk_22, o_indexAddrS es_22, ze_22, o_buildSlice es_22 ze_22 (by decide) ba_22_1, ap_22, builtin_append ni_22, e1, a1, append_some ap_22, srcCells, c1, this]
end
def rksR (l : Nat → Int × Int) (n : Nat) : List (Int × Int) := if chkS l n = 0 then rkR l n else []
section
variable (b off n c : Nat) {cs : List Value} {own : Bool} {l : Nat → Int × Int} {h : List Blk} (hb : h[b]? = some (.cells cs 2 true own)) (hc : SpC cs off n l)
include hb hc
theorem k17 (hn : n ≤ 60) : callH LL 17 [sl b off n c] h = some ⟨.tuple #[sl h.length 0 (rksR l n).length (rksR l n).length, iv (chkS l n)], h ++ [spB (rksR l n)], [b], []⟩ := by
  refine callN_1 rfl hb noIdB_flat (args' := [sl 0 off n c]) (by simp [renV, dep, optAll, idx, nbeq]) (v := .tuple #[sl 1 0 (rksR l n).length (rksR l n).length, iv (chkS l n)]) (news := [spB (rksR l n)]) (go (by decide) ?_) (by intro blk hb; simp only [List.mem_singleton] at hb; subst hb; exact noIdB_flat) (by simp [renV, dep, optAll])
  have a := fun bx => k45 0 off n c (h := .cells cs 2 true own :: bx) rfl hc hn
  rw [run17 _ _ _ (by simp)]
  unfold rksR
  by_cases h1 : chkS l n = 0
  · obtain ⟨n1, n2⟩ := chk_ok h1
    rw [if_pos h1, h1]
    rw [h1] at a
    have this := l17 off n c (own := own) hc n2 n 0 (by omega)
    have hl : (rkR l n).length = n := by simp [rkR]
    rw [hl]
    simp only [spB, List.range_zero, List.map_nil, List.flatMap_nil, Int.natCast_zero] at this ⊢
    generalize (rkR l n).flatMap spG = F at *
    simp (maxSteps := 1000000) (disch := first | omega | decide | assumption | simp [scal]) [lenA_sl lk_22, o_indexAddrS es_22, ze_22, o_buildSlice es_22 ze_22 (by decide) ba_22_1, ap_22, builtin_append ni_22, a, this]
  · rw [if_neg h1]
    simp only [spB, List.flatMap_nil, List.length_nil]
    simp (maxSteps := 1000000) (disch := first | omega | decide | assumption | simp [scal]) [lenA_sl lk_22, o_indexAddrS es_22, ze_22, o_buildSlice es_22 ze_22 (by decide) ba_22_1, ap_22, builtin_append ni_22, a, h1]
end
end Go.Proofs.Ytfccmddkblbeoaa.rk
namespace Go.Proofs.Ytfccmddkblbeoaa.rk
open Go.GE
set_option linter.unusedVariables false
set_option linter.unusedSimpArgs false
set_option linter.unusedSectionVars false
set_option maxRecDepth 100000
set_option maxHeartbeats 4000000
attribute [local simp] runOps_nil runOps_cons runOpsF_nil runOpsF_cons fstS_some fstF_some opStep_eq want_none oStep_true oStep_false fin_pure fin_read fin_alloc fin_write storeB wrN cellV addWr o_move o_assign o_pick o_alloc o_box o_load o_store o_nilCheck o_bin o_un o_extract o_callV o_callB o_callI callV_f callV_y callV_fc o_makeFunc partsA Instr.fill builtin_len builtin_max2 bin_add bin_sub bin_mul bin_quo bin_rem bin_lss bin_leq bin_gtr bin_geq bin_eql bin_neq un_neg un_not bin_shr bin_shl wrap_u64_id opd opds optAll putO nbeq nblt constOk isC ops sub cl cr co bodyOf thenS_normal thenS_ret thenS_exit thenS_goto afterN_normal afterN_ret afterN_exit afterN_goto condS_true condS_false blockS_normal blockS_ret blockS_exit blockS_goto headS normS normK_eq fixS_nil fixS_cons fix1 fixV emptyB keepO_nil keepO_cons roundC_normal roundC_exit roundC_ret roundC_goto sweep_eq sweepD rnm pickR pickW rootsB ptrT renT ptrFn renFn ptrB_flat ptrB_non renB_flat renB_non plainS_some drawS_some fpsOk disj unord range' dropTo enumT undef wrap_i64_id Value.cells mkCells ptrTo scal cellsAt rdN endS_ret resultsA Option.bind_some tupV finish reachN dep ptrL_eq ptrL renL_eq renL ptrV_bool ptrV_int ptrV_string ptrV_nilFunc ptrV_nilIface ptrV_nilPtr ptrV_ptr ptrV_nilSl ptrV_sl ptrV_iface ptrV_agg ptrV_tuple ptrV_func renV_bool renV_int renV_string renV_nilFunc renV_nilIface renV_nilPtr renV_ptr renV_nilSl renV_sl renV_iface renV_agg renV_tuple renV_func gotoS_goto gotoS_normal gotoS_exit gotoS_ret skip_seq sliceE bnd bndHi intOf optOpd keepT_nil keepT_cons keepC_t keepC_f lk_nil lk_cons lkC_t lkC_f has_nil has_cons hasC_t hasC_f rep_nil rep_cons repC_t repC_f put_eq putC_t putC_f mem_nil mem_cons memC_t memC_f idx_nil idx_cons idxC_t idxC_f reach_nil reach_cons reachC_t reachC_f
attribute [local simp] n19_1s n19_3s n19_7s n19_10s n19_11s n19_9s n19_13s n19_16s n19_17s n19_15s n19_18s n19_14s n19_12s n19_8s n19_6s n19_5s n19_21s n19_25s n19_28s n19_29s n19_27s n19_33s n19_36s n19_38s n19_39s n19_37s n19_35s n19_41s n19_43s n19_44s n19_42s n19_40s n19_34s n19_32s n19_31s n19_45s n19_30s n19_26s n19_24s n19_23s n19_23g n19_22s n19_20s n19_47s n19_48s n19_46s n19_19s n19_4s n19_2s n19_0s Try.f19 n38_1s n38_4s n38_8s n38_11s n38_12s n38_10s n38_16s n38_18s n38_21s n38_22s n38_20s n38_23s n38_19s n38_17s n38_15s n38_14s n38_24s n38_13s n38_9s n38_7s n38_6s n38_6g n38_5s n38_3s n38_26s n38_27s n38_25s n38_2s n38_0s Try.f38
/-- the days that can be, and that surely are, among the K quietest -/
def canF (r : Nat → Int × Int) (K : Int) (i : Nat) : List Nat := (List.range i).filter fun j => decide ((r j).1 ≤ K)
def sureF (r : Nat → Int × Int) (K : Int) (i : Nat) : List Nat := (List.range i).filter fun j => decide ((r j).2 ≤ K)
theorem filt_len {p : Nat → Bool} {i : Nat} : ((List.range i).filter p).length ≤ i := by
  have := List.length_filter_le p (List.range i)
  simpa using this
theorem filt_succ {p : Nat → Bool} {i : Nat} : (List.range (i + 1)).filter p = if p i = true then (List.range i).filter p ++ [i] else (List.range i).filter p := by
  rw [List.range_succ, List.filter_append, List.filter_cons]
  by_cases h : p i = true <;> simp [h]
theorem rkR_at {l : Nat → Int × Int} {n i : Nat} (h : i < n) : spAt (rkR l n) i = rkS l n i := by simp [spAt, rkR, h]
theorem rkR_len {l : Nat → Int × Int} {n : Nat} : (rkR l n).length = n := by simp [rkR]
section
variable (K0 : Blk) (l : Nat → Int × Int) (n : Nat) (K : Int)
theorem l19 (hn : n ≤ 30) : ∀ (k i : Nat), i + k = n →
    lpB Try.prog LL ⟨19, 51, 1, none⟩ n19_23 n19_24 ⟨[(1, iv K), (4, sl 1 0 (canF (rkS l n) K i).length (canF (rkS l n) K i).length), (5, sl 2 0 (sureF (rkS l n) K i).length (sureF (rkS l n) K i).length), (25, sl 3 0 n n), (26, iv n), (27, iv i)], [K0, nB (canF (rkS l n) K i), nB (sureF (rkS l n) K i), spB (rkR l n)], []⟩ =
      some (.exit 1, ⟨[(4, sl 1 0 (canF (rkS l n) K n).length (canF (rkS l n) K n).length), (5, sl 2 0 (sureF (rkS l n) K n).length (sureF (rkS l n) K n).length)], [K0, nB (canF (rkS l n) K n), nB (sureF (rkS l n) K n)], []⟩) := by
  intro k
  induction k with
  | zero =>
    intro i hi
    obtain rfl : i = n := by omega
    simp only [spB, nB]
    generalize (rkR l i).flatMap spG = F
    generalize canF (rkS l i) K i = C
    generalize sureF (rkS l i) K i = D
    generalize nm C = C1
    generalize nm D = D1
    rw [lpB_eq]
    simp (maxSteps := 1000000) (disch := first | omega | decide | assumption | simp [scal]) [lenA_sl lk_22, o_indexAddrS es_22, loadA_eq ia_55, za_55, sz_55, o_fieldAddr fa_55_0 (by decide), loadA_eq ia_3, o_indexAddrS es_24, ze_24, o_buildSlice es_24 ze_24 (by decide) ba_24_1, ap_24, builtin_append ni_24, o_fieldAddr fa_55_1 (by decide)]
  | succ k ih =>
    intro i hi
    have e0 : i < n := by omega
    have e1 : (i : Int) < n := by omega
    have this := ih (i + 1) (by omega)
    obtain ⟨p1, p2⟩ := spAt_C (rkR l n) i (by rw [rkR_len]; exact e0)
    rw [rkR_at e0, Nat.zero_add] at p1 p2
    have hc1 : canF (rkS l n) K (i + 1) = if decide ((rkS l n i).1 ≤ K) = true then canF (rkS l n) K i ++ [i] else canF (rkS l n) K i := filt_succ
    have hd1 : sureF (rkS l n) K (i + 1) = if decide ((rkS l n i).2 ≤ K) = true then sureF (rkS l n) K i ++ [i] else sureF (rkS l n) K i := filt_succ
    have lc : (canF (rkS l n) K i).length ≤ i := filt_len
    have ld : (sureF (rkS l n) K i).length ≤ i := filt_len
    rw [hc1, hd1] at this
    clear hc1 hd1 ih
    simp only [spB, nB] at this ⊢
    generalize canF (rkS l n) K n = C2 at *
    generalize sureF (rkS l n) K n = D2 at *
    generalize canF (rkS l n) K i = C at *
    generalize sureF (rkS l n) K i = D at *
    generalize (rkR l n).flatMap spG = F at *
    generalize rkS l n i = z at *
    obtain ⟨z1, z2⟩ := z
    have c1 := fun hp b c rd => app_list (h := hp) (b := b) (c := c) (k := 1) (by' := 8) (l := C.length) (cs := nm C) (new := [iv i]) (rd := rd) (by rw [nm_len]; simp) (by omega) (by omega) rfl
    have c2 := fun hp b c rd => app_list (h := hp) (b := b) (c := c) (k := 1) (by' := 8) (l := D.length) (cs := nm D) (new := [iv i]) (rd := rd) (by rw [nm_len]; simp) (by omega) (by omega) rfl
    have lz : ∀ (x : Nat) (O : List Nat), (O ++ [x]).length = O.length + 1 := fun x O => by simp
    simp only [cast1] at this
    simp only [] at p1 p2
    rw [lpB_eq]
    by_cases h1 : z1 ≤ K <;> by_cases h2 : z2 ≤ K <;> simp only [h1, h2, decide_true, decide_false, Bool.false_eq_true, if_true, if_false, lz, nm_app, nm_one] at this
    · generalize nm C2 = C3 at *
      generalize nm D2 = D3 at *
      generalize nm C = C1 at *
      generalize nm D = D1 at *
      simp (maxSteps := 1000000) (disch := first | omega | decide | assumption | simp [scal]) [lenA_sl lk_22, o_indexAddrS es_22, loadA_eq ia_55, za_55, sz_55, o_fieldAddr fa_55_0 (by decide), loadA_eq ia_3, o_indexAddrS es_24, ze_24, o_buildSlice es_24 ze_24 (by decide) ba_24_1, ap_24, builtin_append ni_24, o_fieldAddr fa_55_1 (by decide), e0, e1, p1, p2, h1, h2, append_some ap_24, srcCells, c1, c2, this]
    · generalize nm C2 = C3 at *
      generalize nm D2 = D3 at *
      generalize nm C = C1 at *
      generalize nm D = D1 at *
      simp (maxSteps := 1000000) (disch := first | omega | decide | assumption | simp [scal]) [lenA_sl lk_22, o_indexAddrS es_22, loadA_eq ia_55, za_55, sz_55, o_fieldAddr fa_55_0 (by decide), loadA_eq ia_3, o_indexAddrS es_24, ze_24, o_buildSlice es_24 ze_24 (by decide) ba_24_1, ap_24, builtin_append ni_24, o_fieldAddr fa_55_1 (by decide), e0, e1, p1, p2, h1, h2, append_some ap_24, srcCells, c1, c2, this]
    · generalize nm C2 = C3 at *
      generalize nm D2 = D3 at *
      generalize nm C = C1 at *
      generalize nm D = D1 at *
      simp (maxSteps := 1000000) (disch := first | omega | decide | assumption | simp [scal]) [lenA_sl lk_22, o_indexAddrS es_22, loadA_eq ia_55, za_55, sz_55, o_fieldAddr fa_55_0 (by decide), loadA_eq ia_3, o_indexAddrS es_24, ze_24, o_buildSlice es_24 ze_24 (by decide) ba_24_1, ap_24, builtin_append ni_24, o_fieldAddr fa_55_1 (by decide), e0, e1, p1, p2, h1, h2, append_some ap_24, srcCells, c1, c2, this]
    · generalize nm C2 = C3 at *
      generalize nm D2 = D3 at *
      generalize nm C = C1 at *
      generalize nm D = D1 at *
      simp (maxSteps := 1000000) (disch := first | omega | decide | assumption | simp [scal]) [lenA_sl lk_22, o_indexAddrS es_22, loadA_eq ia_55, za_55, sz_55, o_fieldAddr fa_55_0 (by decide), loadA_eq ia_3, o_indexAddrS es_24, ze_24, o_buildSlice es_24 ze_24 (by decide) ba_24_1, ap_24, builtin_append ni_24, o_fieldAddr fa_55_1 (by decide), e0, e1, p1, p2, h1, h2, append_some ap_24, srcCells, c1, c2, this]
end
def qstC (l : Nat → Int × Int) (n : Nat) (K : Int) : List Nat := if chkS l n = 0 ∧ (decide (1 ≤ K) && decide (K ≤ (n : Int))) = true then canF (rkS l n) K n else []
def qstD (l : Nat → Int × Int) (n : Nat) (K : Int) : List Nat := if chkS l n = 0 ∧ (decide (1 ≤ K) && decide (K ≤ (n : Int))) = true then sureF (rkS l n) K n else []
def qstE (l : Nat → Int × Int) (n : Nat) (K : Int) : Int := if chkS l n ≠ 0 then chkS l n else if (decide (1 ≤ K) && decide (K ≤ (n : Int))) = true then 0 else 1
section
variable (b off n c : Nat) (K : Int) {cs : List Value} {own : Bool} {l : Nat → Int × Int} {h : List Blk} (hb : h[b]? = some (.cells cs 2 true own)) (hc : SpC cs off n l)
include hb hc
theorem k19 (hn : n ≤ 60) : callH LL 19 [sl b off n c, iv K] h = some ⟨.tuple #[sl h.length 0 (qstC l n K).length (qstC l n K).length, sl (h.length + 1) 0 (qstD l n K).length (qstD l n K).length, iv (qstE l n K)], h ++ [nB (qstC l n K), nB (qstD l n K)], [b], []⟩ := by
  refine callN_1 rfl hb noIdB_flat (args' := [sl 0 off n c, iv K]) (by simp [renV, dep, optAll, idx, nbeq]) (v := .tuple #[sl 1 0 (qstC l n K).length (qstC l n K).length, sl 2 0 (qstD l n K).length (qstD l n K).length, iv (qstE l n K)]) (news := [nB (qstC l n K), nB (qstD l n K)]) (go (by decide) ?_) (by intro blk hb; simp only [List.mem_cons, List.not_mem_nil, or_false] at hb; rcases hb with rfl | rfl <;> exact noIdB_flat) (by simp [renV, dep, optAll])
  have a := k17 0 off n c (h := [.cells cs 2 true own]) rfl hc hn
  unfold rksR at a
  rw [run19 _ _ _ (by simp)]
  unfold qstC qstD qstE
  by_cases h1 : chkS l n = 0
  · obtain ⟨n1, n2⟩ := chk_ok h1
    rw [if_pos h1, h1, rkR_len] at a
    cases h2 : (decide (1 ≤ K) && decide (K ≤ (n : Int)))
    · simp only [h1, Bool.false_eq_true, and_false, if_false, nB, nm_nil, List.length_nil, ne_eq, not_true]
      simp only [spB] at a
      generalize (rkR l n).flatMap spG = F at *
      simp (maxSteps := 1000000) (disch := first | omega | decide | assumption | simp [scal]) [lenA_sl lk_22, o_indexAddrS es_22, loadA_eq ia_55, za_55, sz_55, o_fieldAddr fa_55_0 (by decide), loadA_eq ia_3, o_indexAddrS es_24, ze_24, o_buildSlice es_24 ze_24 (by decide) ba_24_1, ap_24, builtin_append ni_24, o_fieldAddr fa_55_1 (by decide), a, k57, h2]
    · have this := l19 (.cells cs 2 true own) l n K n2 n 0 (by omega)
      have f0 : canF (rkS l n) K 0 = [] := rfl
      have f1 : sureF (rkS l n) K 0 = [] := rfl
      simp only [f0, f1, List.length_nil, Int.natCast_zero] at this
      simp only [h1, h2, and_self, if_true, ne_eq, not_true, if_false]
      simp only [spB, nB, nm_nil] at a this ⊢
      generalize (rkR l n).flatMap spG = F at *
      generalize canF (rkS l n) K n = C at *
      generalize sureF (rkS l n) K n = D at *
      generalize nm C = C1 at *
      generalize nm D = D1 at *
      simp (maxSteps := 1000000) (disch := first | omega | decide | assumption | simp [scal]) [lenA_sl lk_22, o_indexAddrS es_22, loadA_eq ia_55, za_55, sz_55, o_fieldAddr fa_55_0 (by decide), loadA_eq ia_3, o_indexAddrS es_24, ze_24, o_buildSlice es_24 ze_24 (by decide) ba_24_1, ap_24, builtin_append ni_24, o_fieldAddr fa_55_1 (by decide), a, k57, h2, this]
  · rw [if_neg h1] at a
    simp only [h1, false_and, if_false, nB, nm_nil, List.length_nil, ne_eq, not_false_eq_true, if_true]
    simp only [spB, List.flatMap_nil, List.length_nil] at a
    simp (maxSteps := 1000000) (disch := first | omega | decide | assumption | simp [scal]) [lenA_sl lk_22, o_indexAddrS es_22, loadA_eq ia_55, za_55, sz_55, o_fieldAddr fa_55_0 (by decide), loadA_eq ia_3, o_indexAddrS es_24, ze_24, o_buildSlice es_24 ze_24 (by decide) ba_24_1, ap_24, builtin_append ni_24, o_fieldAddr fa_55_1 (by decide), a, h1]
end
section
variable (L : List Nat) (K : Nat)
theorem l38 (hL : L.length ≤ 60) : ∀ (k i : Nat), i + k = L.length →
    lpB Try.prog LL ⟨38, 17, 1, none⟩ n38_6 n38_7 ⟨[(1, iv K), (7, sl 0 0 L.length L.length), (8, iv L.length), (9, iv i)], [nB L], []⟩ =
      if (L.drop i).contains K = true then some (.ret, ⟨[(4, .bool true)], [nB L], []⟩) else some (.exit 0, ⟨[], [nB L], []⟩) := by
  intro k
  induction k with
  | zero =>
    intro i hi
    obtain rfl : i = L.length := by omega
    rw [List.drop_length]
    simp only [nB, List.contains_nil, Bool.false_eq_true, if_false]
    generalize nm L = M
    rw [lpB_eq]
    simp (maxSteps := 1000000) (disch := first | omega | decide | assumption | simp [scal]) [lenA_sl lk_24, o_indexAddrS es_24, loadA_eq ia_3]
  | succ k ih =>
    intro i hi
    have e0 : i < L.length := by omega
    have e1 : (i : Int) < L.length := by omega
    have this := ih (i + 1) (by omega)
    have p1 := nm_get e0
    have hd : L.getD i 0 = L[i] := by simp [e0]
    rw [List.drop_eq_getElem_cons e0, ← hd, List.contains_cons]
    simp only [nB] at this ⊢
    simp only [cast1] at this
    generalize L.getD i 0 = x at *
    generalize nm L = M at *
    generalize (L.drop (i + 1)).contains K = B at *
    rw [lpB_eq]
    by_cases h1 : K = x
    · subst h1
      simp only [beq_self_eq_true, Bool.true_or, if_true]
      simp (maxSteps := 1000000) (disch := first | omega | decide | assumption | simp [scal]) [lenA_sl lk_24, o_indexAddrS es_24, loadA_eq ia_3, e0, e1, p1]
    · have h1' : ¬ (x : Int) = K := by omega
      have h2 : (K == x) = false := by simp [h1]
      rw [h2, Bool.false_or]
      cases B
      · simp only [Bool.false_eq_true, if_false] at this ⊢
        simp (maxSteps := 1000000) (disch := first | omega | decide | assumption | simp [scal]) [lenA_sl lk_24, o_indexAddrS es_24, loadA_eq ia_3, e0, e1, p1, h1', this]
      · simp only [if_true] at this ⊢
        simp (maxSteps := 1000000) (disch := first | omega | decide | assumption | simp [scal]) [lenA_sl lk_24, o_indexAddrS es_24, loadA_eq ia_3, e0, e1, p1, h1', this]
end
theorem k38 (L : List Nat) (K b : Nat) {h : List Blk} (hb : h[b]? = some (nB L)) (hL : L.length ≤ 60) : callH LL 38 [sl b 0 L.length L.length, iv K] h = some ⟨.bool (L.contains K), h, [b], []⟩ := by
  refine callH_1 rfl hb noIdB_flat (args' := [sl 0 0 L.length L.length, iv K]) (by simp [renV, dep, optAll, idx, nbeq]) (go (by decide) ?_) fun _ => rfl
  have this := l38 L K hL L.length 0 (by omega)
  rw [List.drop_zero] at this
  simp only [nB, Int.natCast_zero] at this ⊢
  generalize nm L = M at *
  rw [run38 _ _ _ (by simp)]
  cases h1 : L.contains K <;> rw [h1] at this <;> simp only [Bool.false_eq_true, if_false, if_true] at this
  · simp (maxSteps := 1000000) (disch := first | omega | decide | assumption | simp [scal]) [lenA_sl lk_24, o_indexAddrS es_24, loadA_eq ia_3, this]
  · simp (maxSteps := 1000000) (disch := first | omega | decide | assumption | simp [scal]) [lenA_sl lk_24, o_indexAddrS es_24, loadA_eq ia_3, this]
end Go.Proofs.Ytfccmddkblbeoaa.rk
namespace Go.Proofs.Ytfccmddkblbeoaa.rk
open Go.GE
set_option linter.unusedVariables false
set_option linter.unusedSimpArgs false
set_option linter.unusedSectionVars false
set_option maxRecDepth 100000
set_option maxHeartbeats 4000000
attribute [local simp] runOps_nil runOps_cons runOpsF_nil runOpsF_cons fstS_some fstF_some opStep_eq want_none oStep_true oStep_false fin_pure fin_read fin_alloc fin_write storeB wrN cellV addWr o_move o_assign o_pick o_alloc o_box o_load o_store o_nilCheck o_bin o_un o_extract o_callV o_callB o_callI callV_f callV_y callV_fc o_makeFunc partsA Instr.fill builtin_len builtin_max2 bin_add bin_sub bin_mul bin_quo bin_rem bin_lss bin_leq bin_gtr bin_geq bin_eql bin_neq un_neg un_not bin_shr bin_shl wrap_u64_id opd opds optAll putO nbeq nblt constOk isC ops sub cl cr co bodyOf thenS_normal thenS_ret thenS_exit thenS_goto afterN_normal afterN_ret afterN_exit afterN_goto condS_true condS_false blockS_normal blockS_ret blockS_exit blockS_goto headS normS normK_eq fixS_nil fixS_cons fix1 fixV emptyB keepO_nil keepO_cons roundC_normal roundC_exit roundC_ret roundC_goto sweep_eq sweepD rnm pickR pickW rootsB ptrT renT ptrFn renFn ptrB_flat ptrB_non renB_flat renB_non plainS_some drawS_some fpsOk disj unord range' dropTo enumT undef wrap_i64_id Value.cells mkCells ptrTo scal cellsAt rdN endS_ret resultsA Option.bind_some tupV finish reachN dep ptrL_eq ptrL renL_eq renL ptrV_bool ptrV_int ptrV_string ptrV_nilFunc ptrV_nilIface ptrV_nilPtr ptrV_ptr ptrV_nilSl ptrV_sl ptrV_iface ptrV_agg ptrV_tuple ptrV_func renV_bool renV_int renV_string renV_nilFunc renV_nilIface renV_nilPtr renV_ptr renV_nilSl renV_sl renV_iface renV_agg renV_tuple renV_func gotoS_goto gotoS_normal gotoS_exit gotoS_ret skip_seq sliceE bnd bndHi intOf optOpd keepT_nil keepT_cons keepC_t keepC_f lk_nil lk_cons lkC_t lkC_f has_nil has_cons hasC_t hasC_f rep_nil rep_cons repC_t repC_f put_eq putC_t putC_f mem_nil mem_cons memC_t memC_f idx_nil idx_cons idxC_t idxC_f reach_nil reach_cons reachC_t reachC_f
attribute [local simp] n7_1s n7_3s n7_5s n7_7s n7_10s n7_14s n7_17s n7_18s n7_16s n7_22s n7_24s n7_27s n7_29s n7_30s n7_28s n7_26s n7_32s n7_34s n7_39s n7_41s n7_42s n7_40s n7_38s n7_45s n7_44s n7_46s n7_43s n7_37s n7_36s n7_36g n7_35s n7_33s n7_31s n7_25s n7_23s n7_21s n7_20s n7_47s n7_19s n7_15s n7_13s n7_12s n7_12g n7_11s n7_9s n7_49s n7_51s n7_53s n7_56s n7_59s n7_60s n7_58s n7_61s n7_57s n7_55s n7_64s n7_68s n7_71s n7_72s n7_70s n7_76s n7_78s n7_81s n7_82s n7_80s n7_83s n7_79s n7_77s n7_75s n7_74s n7_84s n7_73s n7_69s n7_67s n7_66s n7_66g n7_65s n7_63s n7_86s n7_87s n7_85s n7_62s n7_54s n7_52s n7_50s n7_48s n7_8s n7_6s n7_4s n7_2s n7_0s Try.f7
def swp (X : List Nat) (p : Nat) : List Nat := (X.set (p + 1) (X.getD p 0)).set p (X.getD (p + 1) 0)
theorem swp_len {X : List Nat} {p : Nat} : (swp X p).length = X.length := by simp [swp]
theorem nm_set {X : List Nat} {i v : Nat} : nm (X.set i v) = (nm X).set i (iv v) := by simp [nm, List.map_set]
theorem swp_app (A : List Nat) (x y : Nat) (B : List Nat) : ((A ++ x :: y :: B).set (A.length + 1) x).set A.length y = A ++ y :: x :: B := by
  induction A with
  | nil => rfl
  | cons a A ih => simp [ih]
theorem swp_perm {X : List Nat} {p : Nat} (h : p + 1 < X.length) : (swp X p).Perm X := by
  have e : X = X.take p ++ X[p] :: X[p + 1] :: X.drop (p + 2) := by
    rw [List.getElem_cons_drop, List.getElem_cons_drop, List.take_append_drop]
  have e1 : X.getD p 0 = X[p] := by simp [show p < X.length by omega]
  have e2 : X.getD (p + 1) 0 = X[p + 1] := by simp [h]
  have hl : (X.take p).length = p := by rw [List.length_take]; omega
  have := swp_app (X.take p) X[p] X[p + 1] (X.drop (p + 2))
  rw [hl, ← e] at this
  unfold swp
  rw [e1, e2, this]
  conv => rhs; rw [e]
  exact (List.Perm.swap _ _ _).append_left _
theorem swp_get {X : List Nat} {p : Nat} (h : p + 1 < X.length) (j : Nat) : (swp X p).getD j 0 = if j = p then X.getD (p + 1) 0 else if j = p + 1 then X.getD p 0 else X.getD j 0 := by
  unfold swp
  simp only [List.getD_eq_getElem?_getD, List.getElem?_set, List.length_set]
  by_cases h1 : p = j
  · subst h1
    rw [if_pos rfl, if_pos rfl, if_pos (by omega)]; rfl
  · rw [if_neg h1, if_neg (Ne.symm h1)]
    by_cases h2 : p + 1 = j
    · subst h2
      rw [if_pos rfl, if_pos rfl, if_pos h]; rfl
    · rw [if_neg h2, if_neg (Ne.symm h2)]
/-- the element at p moves down to its place -/
def insP (tv : Nat → Int) : Nat → List Nat → List Nat
  | 0, X => X
  | p + 1, X => if tv (X.getD (p + 1) 0) < tv (X.getD p 0) then insP tv p (swp X p) else X
theorem insP_perm {tv : Nat → Int} : ∀ {p : Nat} {X : List Nat}, p < X.length → (insP tv p X).Perm X := by
  intro p
  induction p with
  | zero => intro X _; exact List.Perm.refl _
  | succ p ih =>
    intro X h
    unfold insP
    split
    · exact (ih (by rw [swp_len]; omega)).trans (swp_perm h)
    · exact List.Perm.refl _
theorem insP_sort {tv : Nat → Int} : ∀ {p : Nat} {X : List Nat}, p < X.length → (∀ a b, a < b → b < X.length → a ≠ p → b ≠ p → tv (X.getD a 0) ≤ tv (X.getD b 0)) → (∀ b, p < b → b < X.length → tv (X.getD p 0) ≤ tv (X.getD b 0)) →
    ∀ a b, a < b → b < X.length → tv ((insP tv p X).getD a 0) ≤ tv ((insP tv p X).getD b 0) := by
  intro p
  induction p with
  | zero =>
    intro X h h1 h2 a b hab hb
    unfold insP
    by_cases ha : a = 0
    · subst ha; exact h2 b hab hb
    · exact h1 a b hab hb ha (by omega)
  | succ p ih =>
    intro X h h1 h2 a b hab hb
    unfold insP
    split
    · rename_i hlt
      have g := fun j => swp_get (X := X) (p := p) h j
      have := ih (X := swp X p) (by rw [swp_len]; omega) (by
        rw [swp_len]
        intro a b hab hb ha hb'
        rw [g a, g b, if_neg ha, if_neg hb']
        by_cases h3 : a = p + 1
        · subst h3
          rw [if_pos rfl, if_neg (by omega)]
          exact h1 p b (by omega) hb (by omega) (by omega)
        · rw [if_neg h3]
          by_cases h4 : b = p + 1
          · subst h4
            rw [if_pos rfl]
            exact h1 a p (by omega) (by omega) (by omega) (by omega)
          · rw [if_neg h4]
            exact h1 a b hab hb (by omega) (by omega)) (by
        rw [swp_len]
        intro b hb1 hb
        rw [g p, g b, if_pos rfl, if_neg (by omega)]
        by_cases h4 : b = p + 1
        · subst h4; rw [if_pos rfl]; omega
        · rw [if_neg h4]
          exact h2 b (by omega) hb)
      exact this a b hab (by rw [swp_len]; exact hb)
    · rename_i hge
      by_cases ha : a = p + 1
      · subst ha; exact h2 b hab hb
      · by_cases hb' : b = p + 1
        · subst hb'
          by_cases hap : a = p
          · subst hap; omega
          · have := h1 a p (by omega) (by omega) (by omega) (by omega); omega
        · exact h1 a b hab hb ha hb'
/-- the order by true ranges, of the first i days -/
def srt (tv : Nat → Int) : Nat → List Nat
  | 0 => []
  | i + 1 => insP tv i (srt tv i ++ [i])
theorem srt_perm {tv : Nat → Int} : ∀ {i : Nat}, (srt tv i).Perm (List.range i) := by
  intro i
  induction i with
  | zero => exact List.Perm.refl _
  | succ i ih =>
    have hl : (srt tv i).length = i := by have := ih.length_eq; simpa using this
    unfold srt
    rw [List.range_succ]
    exact (insP_perm (by simp [hl])).trans (ih.append_right _)
theorem srt_len {tv : Nat → Int} {i : Nat} : (srt tv i).length = i := by have := (srt_perm (tv := tv) (i := i)).length_eq; simpa using this
theorem srt_sort {tv : Nat → Int} : ∀ {i : Nat}, ∀ a b, a < b → b < i → tv ((srt tv i).getD a 0) ≤ tv ((srt tv i).getD b 0) := by
  intro i
  induction i with
  | zero => intro a b _ h; omega
  | succ i ih =>
    have hl := srt_len (tv := tv) (i := i)
    intro a b hab hb
    unfold srt
    refine insP_sort (by simp [hl]) ?_ ?_ a b hab (by simp [hl]; omega)
    · intro a b hab hb ha hb'
      have hb2 : b < i := by simp [hl] at hb; omega
      have e : ∀ j, j < i → (srt tv i ++ [i]).getD j 0 = (srt tv i).getD j 0 := fun j hj => by
        simp only [List.getD_eq_getElem?_getD]
        rw [List.getElem?_append_left (by omega)]
      rw [e a (by omega), e b hb2]
      exact ih a b hab hb2
    · intro b hb1 hb
      simp [hl] at hb
      omega
section
variable (K0 K1 : Blk) (Na : List Value) (off2 m c2 k n : Nat) (tv : Nat → Int) (Rc : List Value)
theorem l7i (i : Nat) (hi : i < n) (n5 : n ≤ 5) (hR : ∀ x, x ≤ i → Rc[x]? = some (iv (tv x))) : ∀ (p : Nat) (X : List Nat), X.length = i + 1 → p ≤ i → (∀ x ∈ X, x ≤ i) →
    lpB Try.prog LL ⟨7, 191, 2, none⟩ n7_36 n7_37 ⟨[(12, iv p), (1, sl 1 off2 m c2), (2, uv k), (7, sl 2 0 n n), (8, sl 3 0 n n), (9, sl 4 0 (i + 1) (i + 1)), (26, sl 2 0 n n), (27, iv n), (28, iv i)], [K0, K1, .cells Na 2 true true, .cells Rc 1 true true, nB X], []⟩ =
      some (.exit 2, ⟨[(1, sl 1 off2 m c2), (2, uv k), (7, sl 2 0 n n), (8, sl 3 0 n n), (9, sl 4 0 (i + 1) (i + 1)), (26, sl 2 0 n n), (27, iv n), (28, iv i)], [K0, K1, .cells Na 2 true true, .cells Rc 1 true true, nB (insP tv p X)], []⟩) := by
  intro p
  induction p with
  | zero =>
    intro X hX hp hx
    simp only [nB, insP]
    generalize nm X = M
    rw [lpB_eq]
    simp (maxSteps := 1000000) (disch := first | omega | decide | assumption | simp [scal]) [lenA_sl lk_22, o_indexAddrS es_22, loadA_eq ia_55, za_55, sz_55, o_fieldAddr fa_55_0 (by decide), loadA_eq ia_3, o_indexAddrS es_24, sz_3, lenA_sl lk_53, o_indexAddrS es_53, loadA_eq ia_5, o_convI cv_5_3, o_fieldAddr fa_55_1 (by decide), ze_24, o_buildSlice es_24 ze_24 (by decide) ba_24_1, ap_24, builtin_append ni_24, lenA_sl lk_24, want_some q7_39g2, want_some q7_56g2, want_some q7_56g6, want_some q7_56g13, want_some q7_78g8, want_some q7_78g18, want_some q7_78g22, want_some q7_78g29, want_some q7_78g33]
  | succ p ih =>
    intro X hX hp hx
    have e0 : p + 1 < i + 1 := by omega
    have e0' : p < i + 1 := by omega
    have mm : ∀ j, j < i + 1 → X.getD j 0 ≤ i := fun j hj => by
      have e : X.getD j 0 = X[j] := by simp [show j < X.length by omega]
      rw [e]; exact hx _ (List.getElem_mem _)
    have p1 := nm_get (L := X) (i := p + 1) (by omega)
    have p2 := nm_get (L := X) (i := p) (by omega)
    have y1 := mm (p + 1) e0
    have y2 := mm p e0'
    have r1 := hR _ y1
    have r2 := hR _ y2
    have z1 : X.getD (p + 1) 0 < n := by omega
    have z2 : X.getD p 0 < n := by omega
    have hl : (nm X).length = i + 1 := by rw [nm_len, hX]
    unfold insP
    have this := ih (swp X p) (by rw [swp_len]; exact hX) (by omega) (fun x hxm => hx x ((swp_perm (by omega)).mem_iff.1 hxm))
    have hs : nm (swp X p) = ((nm X).set (p + 1) (iv (X.getD p 0))).set p (iv (X.getD (p + 1) 0)) := by unfold swp; rw [nm_set, nm_set]
    simp only [nB] at this ⊢
    rw [hs] at this
    have b1 : ((p + 1 : Nat) : Int) - 1 = (p : Int) := by omega
    have b2 : (0 : Int) < ((p + 1 : Nat) : Int) := by omega
    have b3 : p + 1 < (nm X).length := by omega
    have b4 : p < (nm X).length := by omega
    have b5 : p < i := by omega
    have b6 : 0 ≤ (p : Int) + 1 := by omega
    have b7 : p < i + 1 := by omega
    have b8 : (p : Int) < (i : Int) + 1 := by omega
    simp only [cast1] at this b1 b2 ⊢
    clear ih mm hR hs
    generalize X.getD (p + 1) 0 = x1 at *
    generalize X.getD p 0 = x0 at *
    by_cases h1 : tv x1 < tv x0
    · rw [if_pos h1]
      generalize insP tv p (swp X p) = Y at *
      generalize tv x1 = t1 at *
      generalize tv x0 = t0 at *
      generalize nm Y = Y1 at *
      generalize nm X = M at *
      obtain ⟨_, p1⟩ := List.getElem?_eq_some_iff.1 p1
      obtain ⟨_, p2⟩ := List.getElem?_eq_some_iff.1 p2
      rw [lpB_eq]
      simp (maxSteps := 1000000) (disch := first | omega | decide | assumption | simp [scal]) [lenA_sl lk_22, o_indexAddrS es_22, loadA_eq ia_55, za_55, sz_55, o_fieldAddr fa_55_0 (by decide), loadA_eq ia_3, o_indexAddrS es_24, sz_3, lenA_sl lk_53, o_indexAddrS es_53, loadA_eq ia_5, o_convI cv_5_3, o_fieldAddr fa_55_1 (by decide), ze_24, o_buildSlice es_24 ze_24 (by decide) ba_24_1, ap_24, builtin_append ni_24, lenA_sl lk_24, want_some q7_39g2, want_some q7_56g2, want_some q7_56g6, want_some q7_56g13, want_some q7_78g8, want_some q7_78g18, want_some q7_78g22, want_some q7_78g29, want_some q7_78g33, e0, e0', p1, p2, r1, r2, z1, z2, b1, b2, b3, b4, b5, b6, b7, b8, hl, h1, this]
    · rw [if_neg h1]
      generalize tv x1 = t1 at *
      generalize tv x0 = t0 at *
      generalize nm X = M at *
      obtain ⟨_, p1⟩ := List.getElem?_eq_some_iff.1 p1
      obtain ⟨_, p2⟩ := List.getElem?_eq_some_iff.1 p2
      rw [lpB_eq]
      simp (maxSteps := 1000000) (disch := first | omega | decide | assumption | simp [scal]) [lenA_sl lk_22, o_indexAddrS es_22, loadA_eq ia_55, za_55, sz_55, o_fieldAddr fa_55_0 (by decide), loadA_eq ia_3, o_indexAddrS es_24, sz_3, lenA_sl lk_53, o_indexAddrS es_53, loadA_eq ia_5, o_convI cv_5_3, o_fieldAddr fa_55_1 (by decide), ze_24, o_buildSlice es_24 ze_24 (by decide) ba_24_1, ap_24, builtin_append ni_24, lenA_sl lk_24, want_some q7_39g2, want_some q7_56g2, want_some q7_56g6, want_some q7_56g13, want_some q7_78g8, want_some q7_78g18, want_some q7_78g22, want_some q7_78g29, want_some q7_78g33, e0, e0', p1, p2, r1, r2, z1, z2, b1, b2, b3, b4, b5, b6, b7, b8, hl, h1]
end
end Go.Proofs.Ytfccmddkblbeoaa.rk
namespace Go.Proofs.Ytfccmddkblbeoaa.rk
open Go.GE
set_option linter.unusedVariables false
set_option linter.unusedSimpArgs false
set_option linter.unusedSectionVars false
set_option maxRecDepth 100000
set_option maxHeartbeats 4000000
attribute [local simp] runOps_nil runOps_cons runOpsF_nil runOpsF_cons fstS_some fstF_some opStep_eq want_none oStep_true oStep_false fin_pure fin_read fin_alloc fin_write storeB wrN cellV addWr o_move o_assign o_pick o_alloc o_box o_load o_store o_nilCheck o_bin o_un o_extract o_callV o_callB o_callI callV_f callV_y callV_fc o_makeFunc partsA Instr.fill builtin_len builtin_max2 bin_add bin_sub bin_mul bin_quo bin_rem bin_lss bin_leq bin_gtr bin_geq bin_eql bin_neq un_neg un_not bin_shr bin_shl wrap_u64_id opd opds optAll putO nbeq nblt constOk isC ops sub cl cr co bodyOf thenS_normal thenS_ret thenS_exit thenS_goto afterN_normal afterN_ret afterN_exit afterN_goto condS_true condS_false blockS_normal blockS_ret blockS_exit blockS_goto headS normS normK_eq fixS_nil fixS_cons fix1 fixV emptyB keepO_nil keepO_cons roundC_normal roundC_exit roundC_ret roundC_goto sweep_eq sweepD rnm pickR pickW rootsB ptrT renT ptrFn renFn ptrB_flat ptrB_non renB_flat renB_non plainS_some drawS_some fpsOk disj unord range' dropTo enumT undef wrap_i64_id Value.cells mkCells ptrTo scal cellsAt rdN endS_ret resultsA Option.bind_some tupV finish reachN dep ptrL_eq ptrL renL_eq renL ptrV_bool ptrV_int ptrV_string ptrV_nilFunc ptrV_nilIface ptrV_nilPtr ptrV_ptr ptrV_nilSl ptrV_sl ptrV_iface ptrV_agg ptrV_tuple ptrV_func renV_bool renV_int renV_string renV_nilFunc renV_nilIface renV_nilPtr renV_ptr renV_nilSl renV_sl renV_iface renV_agg renV_tuple renV_func gotoS_goto gotoS_normal gotoS_exit gotoS_ret skip_seq sliceE bnd bndHi intOf optOpd keepT_nil keepT_cons keepC_t keepC_f lk_nil lk_cons lkC_t lkC_f has_nil has_cons hasC_t hasC_f rep_nil rep_cons repC_t repC_f put_eq putC_t putC_f mem_nil mem_cons memC_t memC_f idx_nil idx_cons idxC_t idxC_f reach_nil reach_cons reachC_t reachC_f
attribute [local simp] n7_1s n7_3s n7_5s n7_7s n7_10s n7_14s n7_17s n7_18s n7_16s n7_22s n7_24s n7_27s n7_29s n7_30s n7_28s n7_26s n7_32s n7_34s n7_39s n7_41s n7_42s n7_40s n7_38s n7_45s n7_44s n7_46s n7_43s n7_37s n7_36s n7_36g n7_35s n7_33s n7_31s n7_25s n7_23s n7_21s n7_20s n7_47s n7_19s n7_15s n7_13s n7_12s n7_12g n7_11s n7_9s n7_49s n7_51s n7_53s n7_56s n7_59s n7_60s n7_58s n7_61s n7_57s n7_55s n7_64s n7_68s n7_71s n7_72s n7_70s n7_76s n7_78s n7_81s n7_82s n7_80s n7_83s n7_79s n7_77s n7_75s n7_74s n7_84s n7_73s n7_69s n7_67s n7_66s n7_66g n7_65s n7_63s n7_86s n7_87s n7_85s n7_62s n7_54s n7_52s n7_50s n7_48s n7_8s n7_6s n7_4s n7_2s n7_0s Try.f7
/-- a day's true range -/
def tvF (A : List (Int × Int)) (g : Nat → Nat) (m j : Nat) : Int := if j < m then (spAt A j).1 + (g j : Int) % ((spAt A j).2 - (spAt A j).1 + 1) else (spAt A j).1
theorem tvF_bd {A : List (Int × Int)} {g : Nat → Nat} {m j : Nat} (H : OkM A) (hj : j < A.length) : (spAt A j).1 ≤ tvF A g m j ∧ tvF A g m j ≤ (spAt A j).2 := by
  have := H.at hj
  unfold tvF
  split
  · have h1 := Int.emod_nonneg (g j : Int) (show (spAt A j).2 - (spAt A j).1 + 1 ≠ 0 by omega)
    have h2 := Int.emod_lt_of_pos (g j : Int) (show 0 < (spAt A j).2 - (spAt A j).1 + 1 by omega)
    omega
  · omega
def rB (tv : Nat → Int) (n i : Nat) : List Value := (List.range n).map fun j => iv (if j < i then tv j else 0)
theorem rB_len {tv : Nat → Int} {n i : Nat} : (rB tv n i).length = n := by simp [rB]
theorem rB_get {tv : Nat → Int} {n i j : Nat} (h : j < n) (hj : j < i) : (rB tv n i)[j]? = some (iv (tv j)) := by simp [rB, h, hj]
theorem rB_set {tv : Nat → Int} {n i : Nat} (h : i < n) : (rB tv n i).set i (iv (tv i)) = rB tv n (i + 1) := by
  apply List.ext_getElem?
  intro j
  rw [List.getElem?_set, rB_len]
  by_cases hj : i = j
  · subst hj
    rw [if_pos rfl, if_pos h, rB_get h (by omega)]
  · rw [if_neg hj]
    by_cases hn : j < n
    · simp only [rB, List.getElem?_map, List.getElem?_range hn, Option.map_some]
      by_cases h2 : j < i
      · rw [if_pos h2, if_pos (by omega)]
      · rw [if_neg h2, if_neg (by omega)]
    · rw [List.getElem?_eq_none (by rw [rB_len]; omega), List.getElem?_eq_none (by rw [rB_len]; omega)]
theorem rB_zero {tv : Nat → Int} {n : Nat} : rB tv n 0 = List.replicate n (iv 0) := by
  apply List.ext_getElem?
  intro j
  by_cases hn : j < n
  · simp [rB, hn]
  · rw [List.getElem?_eq_none (by rw [rB_len]; omega), List.getElem?_eq_none (by simp; omega)]
section
variable (K0 : Blk) {cs2 : List Value} {own2 : Bool} {A : List (Int × Int)} {g : Nat → Nat} (off2 m c2 k n : Nat)
theorem l7 (hc2 : ByC cs2 off2 m g) (H : OkM A) (hA : A.length = n) (n5 : n ≤ 5) (hlo : ∀ a ∈ A, a.2 ≤ 100) : ∀ (q i : Nat), i + q = n →
    lpB Try.prog LL ⟨7, 191, 2, none⟩ n7_12 n7_13 ⟨[(1, sl 1 off2 m c2), (2, uv k), (7, sl 2 0 n n), (8, sl 3 0 n n), (9, sl 4 0 i i), (26, sl 2 0 n n), (27, iv n), (28, iv i)], [K0, .cells cs2 1 true own2, spB A, .cells (rB (tvF A g m) n i) 1 true true, nB (srt (tvF A g m) i)], []⟩ =
      some (.exit 0, ⟨[(2, uv k), (7, sl 2 0 n n), (9, sl 3 0 n n)], [K0, .cells cs2 1 true own2, spB A, nB (srt (tvF A g m) n)], []⟩) := by
  intro q
  induction q with
  | zero =>
    intro i hi
    obtain rfl : i = n := by omega
    simp only [spB, nB]
    generalize nm (srt (tvF A g m) i) = M
    generalize rB (tvF A g m) i i = R
    rw [lpB_eq]
    simp (maxSteps := 1000000) (disch := first | omega | decide | assumption | simp [scal]) [lenA_sl lk_22, o_indexAddrS es_22, loadA_eq ia_55, za_55, sz_55, o_fieldAddr fa_55_0 (by decide), loadA_eq ia_3, o_indexAddrS es_24, sz_3, lenA_sl lk_53, o_indexAddrS es_53, loadA_eq ia_5, o_convI cv_5_3, o_fieldAddr fa_55_1 (by decide), ze_24, o_buildSlice es_24 ze_24 (by decide) ba_24_1, ap_24, builtin_append ni_24, lenA_sl lk_24, want_some q7_39g2, want_some q7_56g2, want_some q7_56g6, want_some q7_56g13, want_some q7_78g8, want_some q7_78g18, want_some q7_78g22, want_some q7_78g29, want_some q7_78g33]
  | succ q ih =>
    intro i hi
    have e0 : i < n := by omega
    have e1 : (i : Int) < n := by omega
    have this := ih (i + 1) (by omega)
    have inn := l7i K0 (.cells cs2 1 true own2) (A.flatMap spG) off2 m c2 k n (tvF A g m) (rB (tvF A g m) n (i + 1)) i e0 n5 (fun x hx => rB_get (by omega) (by omega)) i (srt (tvF A g m) i ++ [i]) (by simp [srt_len]) (Nat.le_refl _) (fun x hx => by
      rcases List.mem_append.1 hx with hx | hx
      · have := srt_perm.mem_iff.1 hx
        simp only [List.mem_range] at this
        omega
      · simp only [List.mem_singleton] at hx; omega)
    have c1 := fun hp b c rd => app_list (h := hp) (b := b) (c := c) (k := 1) (by' := 8) (l := i) (cs := nm (srt (tvF A g m) i)) (new := [iv i]) (rd := rd) (by rw [nm_len, srt_len]; simp) (by omega) (by omega) rfl
    obtain ⟨p1, p2⟩ := spAt_C A i (by omega)
    rw [Nat.zero_add] at p1 p2
    obtain ⟨d1, d2, d3⟩ := H.at (show i < A.length by omega)
    have d4 : (spAt A i).2 ≤ 100 := by
      have e : spAt A i = A[i]'(by omega) := by simp [spAt, show i < A.length by omega]
      rw [e]; exact hlo _ (List.getElem_mem _)
    have hset := rB_set (tv := tvF A g m) e0
    have hl := rB_len (tv := tvF A g m) (n := n) (i := i)
    have hs : srt (tvF A g m) (i + 1) = insP (tvF A g m) i (srt (tvF A g m) i ++ [i]) := rfl
    rw [hs] at this
    rw [← hset] at this inn
    have ht : tvF A g m i = if i < m then (spAt A i).1 + (g i : Int) % ((spAt A i).2 - (spAt A i).1 + 1) else (spAt A i).1 := rfl
    rw [ht] at this inn
    simp only [spB, nB, nm_app, nm_one] at this inn ⊢
    simp only [cast1] at this
    clear ih hs hset ht H hlo hA
    generalize nm (srt (tvF A g m) n) = M2 at *
    generalize nm (insP (tvF A g m) i (srt (tvF A g m) i ++ [i])) = M3 at *
    generalize nm (srt (tvF A g m) i) = M at *
    generalize rB (tvF A g m) n i = R at *
    generalize A.flatMap spG = N at *
    generalize spAt A i = z at *
    obtain ⟨lo, hi⟩ := z
    simp only [] at p1 p2 d1 d2 d3 d4 this inn
    have e2 : i < R.length := by omega
    rw [lpB_eq]
    by_cases w : i < m
    · have w' : (i : Int) < m := by omega
      obtain ⟨w1, w2⟩ := hc2 i w
      rw [if_pos w] at this inn
      have hne : hi - lo + 1 ≠ 0 := by omega
      have et : Int.tmod (g i : Int) (hi - lo + 1) = (g i : Int) % (hi - lo + 1) := Int.tmod_eq_emod_of_nonneg (by omega)
      have h1 := Int.emod_nonneg (g i : Int) hne
      have h2 := Int.emod_lt_of_pos (g i : Int) (show 0 < hi - lo + 1 by omega)
      generalize (g i : Int) % (hi - lo + 1) = t at *
      generalize g i = gi at *
      simp (maxSteps := 1000000) (disch := first | omega | decide | assumption | simp [scal]) [lenA_sl lk_22, o_indexAddrS es_22, loadA_eq ia_55, za_55, sz_55, o_fieldAddr fa_55_0 (by decide), loadA_eq ia_3, o_indexAddrS es_24, sz_3, lenA_sl lk_53, o_indexAddrS es_53, loadA_eq ia_5, o_convI cv_5_3, o_fieldAddr fa_55_1 (by decide), ze_24, o_buildSlice es_24 ze_24 (by decide) ba_24_1, ap_24, builtin_append ni_24, lenA_sl lk_24, want_some q7_39g2, want_some q7_56g2, want_some q7_56g6, want_some q7_56g13, want_some q7_78g8, want_some q7_78g18, want_some q7_78g22, want_some q7_78g29, want_some q7_78g33, e0, e1, e2, p1, p2, w, w', w1, hne, et, hl, append_some ap_24, srcCells, c1, inn, this]
    · have w' : ¬ (i : Int) < m := by omega
      rw [if_neg w] at this inn
      simp (maxSteps := 1000000) (disch := first | omega | decide | assumption | simp [scal]) [lenA_sl lk_22, o_indexAddrS es_22, loadA_eq ia_55, za_55, sz_55, o_fieldAddr fa_55_0 (by decide), loadA_eq ia_3, o_indexAddrS es_24, sz_3, lenA_sl lk_53, o_indexAddrS es_53, loadA_eq ia_5, o_convI cv_5_3, o_fieldAddr fa_55_1 (by decide), ze_24, o_buildSlice es_24 ze_24 (by decide) ba_24_1, ap_24, builtin_append ni_24, lenA_sl lk_24, want_some q7_39g2, want_some q7_56g2, want_some q7_56g6, want_some q7_56g13, want_some q7_78g8, want_some q7_78g18, want_some q7_78g22, want_some q7_78g29, want_some q7_78g33, e0, e1, e2, p1, p2, w, w', hl, append_some ap_24, srcCells, c1, inn, this]
end
section
variable (K0 K1 : Blk) (R : List (Int × Int)) (C D O : List Nat) (n kk : Nat)
theorem l7b (n5 : n ≤ 5) (hR : R.length = n) (hO : O.length = n) (hC : C.length ≤ 60) (hD : D.length ≤ 60) (hlt : ∀ p, p < n → O.getD p 0 < n)
    (hr : ∀ p, p < n → (spAt R (O.getD p 0)).1 ≤ (p : Int) + 1 ∧ (p : Int) + 1 ≤ (spAt R (O.getD p 0)).2) (hc : ∀ p, p < n → p < kk → C.contains (O.getD p 0) = true) (hd : ∀ p, p < n → kk ≤ p → D.contains (O.getD p 0) = false) : ∀ (q p : Nat), p + q = n →
    lpB Try.prog LL ⟨7, 191, 2, none⟩ n7_66 n7_67 ⟨[(13, iv kk), (14, sl 2 0 n n), (16, sl 3 0 C.length C.length), (17, sl 4 0 D.length D.length), (143, sl 5 0 n n), (144, iv n), (145, iv p)], [K0, K1, spB R, nB C, nB D, nB O], []⟩ =
      some (.exit 4, ⟨[], [K0, K1], []⟩) := by
  intro q
  induction q with
  | zero =>
    intro p hp
    obtain rfl : p = n := by omega
    simp only [spB, nB]
    rw [lpB_eq]
    simp (maxSteps := 1000000) (disch := first | omega | decide | assumption | simp [scal]) [lenA_sl lk_22, o_indexAddrS es_22, loadA_eq ia_55, za_55, sz_55, o_fieldAddr fa_55_0 (by decide), loadA_eq ia_3, o_indexAddrS es_24, sz_3, lenA_sl lk_53, o_indexAddrS es_53, loadA_eq ia_5, o_convI cv_5_3, o_fieldAddr fa_55_1 (by decide), ze_24, o_buildSlice es_24 ze_24 (by decide) ba_24_1, ap_24, builtin_append ni_24, lenA_sl lk_24, want_some q7_39g2, want_some q7_56g2, want_some q7_56g6, want_some q7_56g13, want_some q7_78g8, want_some q7_78g18, want_some q7_78g22, want_some q7_78g29, want_some q7_78g33]
  | succ q ih =>
    intro p hp
    have e0 : p < n := by omega
    have e1 : (p : Int) < n := by omega
    have this := ih (p + 1) (by omega)
    have a1 := fun b0 b1 b2 bx => k38 C (O.getD p 0) 3 (h := b0 :: b1 :: b2 :: nB C :: bx) rfl hC
    have a2 := fun b0 b1 b2 b3 bx => k38 D (O.getD p 0) 4 (h := b0 :: b1 :: b2 :: b3 :: nB D :: bx) rfl hD
    have hlt := hlt p e0
    obtain ⟨r1, r2⟩ := hr p e0
    have hc := hc p e0
    have hd := hd p e0
    obtain ⟨p1, p2⟩ := spAt_C R (O.getD p 0) (by rw [hR]; exact hlt)
    have p3 := nm_get (L := O) (i := p) (by omega)
    rw [Nat.zero_add] at p1 p2
    simp only [spB, nB] at this a1 a2 ⊢
    simp only [cast1] at this
    clear ih hr
    generalize nm C = C1 at *
    generalize nm D = D1 at *
    generalize nm O = O1 at *
    generalize R.flatMap spG = N at *
    generalize O.getD p 0 = x at *
    generalize spAt R x = z at *
    obtain ⟨lo, hi⟩ := z
    simp only [] at p1 p2 r1 r2
    have r1' : ¬ ((p : Int) + 1 < lo) := by omega
    have r2' : ¬ (hi < (p : Int) + 1) := by omega
    rw [lpB_eq]
    by_cases w : p < kk
    · have w' : (p : Int) < kk := by omega
      have w'' : ¬ (kk : Int) ≤ p := by omega
      rw [hc w] at a1
      simp (maxSteps := 1000000) (disch := first | omega | decide | assumption | simp [scal]) [lenA_sl lk_22, o_indexAddrS es_22, loadA_eq ia_55, za_55, sz_55, o_fieldAddr fa_55_0 (by decide), loadA_eq ia_3, o_indexAddrS es_24, sz_3, lenA_sl lk_53, o_indexAddrS es_53, loadA_eq ia_5, o_convI cv_5_3, o_fieldAddr fa_55_1 (by decide), ze_24, o_buildSlice es_24 ze_24 (by decide) ba_24_1, ap_24, builtin_append ni_24, lenA_sl lk_24, want_some q7_39g2, want_some q7_56g2, want_some q7_56g6, want_some q7_56g13, want_some q7_78g8, want_some q7_78g18, want_some q7_78g22, want_some q7_78g29, want_some q7_78g33, e0, e1, p1, p2, p3, hlt, r1', r2', w, w', w'', a1, a2, this]
    · have w' : ¬ (p : Int) < kk := by omega
      have w'' : (kk : Int) ≤ p := by omega
      rw [hd (by omega)] at a2
      simp (maxSteps := 1000000) (disch := first | omega | decide | assumption | simp [scal]) [lenA_sl lk_22, o_indexAddrS es_22, loadA_eq ia_55, za_55, sz_55, o_fieldAddr fa_55_0 (by decide), loadA_eq ia_3, o_indexAddrS es_24, sz_3, lenA_sl lk_53, o_indexAddrS es_53, loadA_eq ia_5, o_convI cv_5_3, o_fieldAddr fa_55_1 (by decide), ze_24, o_buildSlice es_24 ze_24 (by decide) ba_24_1, ap_24, builtin_append ni_24, lenA_sl lk_24, want_some q7_39g2, want_some q7_56g2, want_some q7_56g6, want_some q7_56g13, want_some q7_78g8, want_some q7_78g18, want_some q7_78g22, want_some q7_78g29, want_some q7_78g33, e0, e1, p1, p2, p3, hlt, r1', r2', w, w', w'', a1, a2, this]
end
end Go.Proofs.Ytfccmddkblbeoaa.rk
namespace Go.Proofs.Ytfccmddkblbeoaa.rk
open Go.GE
set_option linter.unusedVariables false
set_option linter.unusedSimpArgs false
set_option linter.unusedSectionVars false
set_option maxRecDepth 100000
set_option maxHeartbeats 4000000
attribute [local simp] runOps_nil runOps_cons runOpsF_nil runOpsF_cons fstS_some fstF_some opStep_eq want_none oStep_true oStep_false fin_pure fin_read fin_alloc fin_write storeB wrN cellV addWr o_move o_assign o_pick o_alloc o_box o_load o_store o_nilCheck o_bin o_un o_extract o_callV o_callB o_callI callV_f callV_y callV_fc o_makeFunc partsA Instr.fill builtin_len builtin_max2 bin_add bin_sub bin_mul bin_quo bin_rem bin_lss bin_leq bin_gtr bin_geq bin_eql bin_neq un_neg un_not bin_shr bin_shl wrap_u64_id opd opds optAll putO nbeq nblt constOk isC ops sub cl cr co bodyOf thenS_normal thenS_ret thenS_exit thenS_goto afterN_normal afterN_ret afterN_exit afterN_goto condS_true condS_false blockS_normal blockS_ret blockS_exit blockS_goto headS normS normK_eq fixS_nil fixS_cons fix1 fixV emptyB keepO_nil keepO_cons roundC_normal roundC_exit roundC_ret roundC_goto sweep_eq sweepD rnm pickR pickW rootsB ptrT renT ptrFn renFn ptrB_flat ptrB_non renB_flat renB_non plainS_some drawS_some fpsOk disj unord range' dropTo enumT undef wrap_i64_id Value.cells mkCells ptrTo scal cellsAt rdN endS_ret resultsA Option.bind_some tupV finish reachN dep ptrL_eq ptrL renL_eq renL ptrV_bool ptrV_int ptrV_string ptrV_nilFunc ptrV_nilIface ptrV_nilPtr ptrV_ptr ptrV_nilSl ptrV_sl ptrV_iface ptrV_agg ptrV_tuple ptrV_func renV_bool renV_int renV_string renV_nilFunc renV_nilIface renV_nilPtr renV_ptr renV_nilSl renV_sl renV_iface renV_agg renV_tuple renV_func gotoS_goto gotoS_normal gotoS_exit gotoS_ret skip_seq sliceE bnd bndHi intOf optOpd keepT_nil keepT_cons keepC_t keepC_f lk_nil lk_cons lkC_t lkC_f has_nil has_cons hasC_t hasC_f rep_nil rep_cons repC_t repC_f put_eq putC_t putC_f mem_nil mem_cons memC_t memC_f idx_nil idx_cons idxC_t idxC_f reach_nil reach_cons reachC_t reachC_f
attribute [local simp] n7_1s n7_3s n7_5s n7_7s n7_10s n7_14s n7_17s n7_18s n7_16s n7_22s n7_24s n7_27s n7_29s n7_30s n7_28s n7_26s n7_32s n7_34s n7_39s n7_41s n7_42s n7_40s n7_38s n7_45s n7_44s n7_46s n7_43s n7_37s n7_36s n7_36g n7_35s n7_33s n7_31s n7_25s n7_23s n7_21s n7_20s n7_47s n7_19s n7_15s n7_13s n7_12s n7_12g n7_11s n7_9s n7_49s n7_51s n7_53s n7_56s n7_59s n7_60s n7_58s n7_61s n7_57s n7_55s n7_64s n7_68s n7_71s n7_72s n7_70s n7_76s n7_78s n7_81s n7_82s n7_80s n7_83s n7_79s n7_77s n7_75s n7_74s n7_84s n7_73s n7_69s n7_67s n7_66s n7_66g n7_65s n7_63s n7_86s n7_87s n7_85s n7_62s n7_54s n7_52s n7_50s n7_48s n7_8s n7_6s n7_4s n7_2s n7_0s Try.f7
theorem mk24 {σ : Tm} {h : List Blk} {d : Option Nat} {ty : TypeId} {pos : String} {af : Array Edge} {g : Option (Nat × Bool)} {x y : Operand} : aop Try.prog LL σ h ⟨d, .makeSlice 24 x y, ty, pos, af, g⟩ = (match opd σ x, opd σ y with
    | some (.int _ n), some (.int _ k) => if 0 ≤ n ∧ n ≤ k ∧ k * 8 ≤ 70368744177664 ∧ k ≤ 70368744177664 then allocR h (.cells (List.replicate k.toNat (iv 0)) 1 true true) fun b => .slice (some ⟨b, 0, none⟩) n.toNat k.toNat else none
    | _, _ => none) := by
  have e1 : Try.prog.underlying 24 = some (.slice 3) := by kernel_rfl
  have e2 : (Try.prog.info? 3).map (fun i => (i.bytes, i.size)) = some (8, 1) := by kernel_rfl
  have e3 : zeroA Try.prog 3 = some (iv 0) := by kernel_rfl
  obtain ⟨i, hi, hp⟩ := Option.map_eq_some_iff.1 e2
  obtain ⟨h8, h1⟩ := Prod.mk.inj hp
  have hfl : ∀ k : Nat, (List.replicate k [iv 0]).flatten = List.replicate k (iv 0) := fun k => List.flatten_replicate_singleton
  simp only [aop, e1, e2, e3, hi, h8, h1]
  cases opd σ x with
  | none => rfl
  | some v =>
    cases v <;> try rfl
    cases opd σ y with
    | none => rfl
    | some w =>
      cases w <;> try rfl
      rename_i k1 n k2 m
      simp only [e3, hi, h8, h1]
      by_cases hc : 0 ≤ n ∧ n ≤ m ∧ m * 8 ≤ 70368744177664 ∧ m ≤ 70368744177664
      · rw [if_pos hc, if_pos ⟨hc.1, hc.2.1, by have := hc.2.2.1; omega, by have := hc.2.2.2; omega, by decide, rfl⟩]
        show allocR h (.cells ((List.replicate m.toNat [iv 0]).flatten) 1 true true) _ = _
        rw [hfl]
      · rw [if_neg hc, if_neg (fun h => hc ⟨h.1, h.2.1, by have := h.2.2.1; omega, by have := h.2.2.2.1; omega⟩)]
theorem rkA_cnt {l : Nat → Int × Int} {i : Nat} : ∀ (k j : Nat) (a b : Int), rkA l i k j a b = (a + ((List.range' j k).countP fun x => quiet l x i : Nat), b - ((List.range' j k).countP fun x => quiet l i x : Nat)) := by
  intro k
  induction k with
  | zero => intro j a b; simp [rkA]
  | succ k ih =>
    intro j a b
    unfold rkA
    rw [ih, List.range'_succ, List.countP_cons, List.countP_cons]
    refine Prod.ext ?_ ?_
    · cases quiet l j i <;> simp <;> omega
    · cases quiet l i j <;> simp <;> omega
theorem rkS_cnt {l : Nat → Int × Int} {n i : Nat} : rkS l n i = ((1 : Int) + (((List.range n).countP fun x => quiet l x i : Nat) : Int), (n : Int) - (((List.range n).countP fun x => quiet l i x : Nat) : Int)) := by
  unfold rkS
  rw [rkA_cnt, List.range_eq_range']
theorem cnt_take {p : Nat → Bool} {O : List Nat} {k : Nat} (h : ∀ q, k ≤ q → q < O.length → p (O.getD q 0) = false) : O.countP p ≤ k := by
  have e : O.countP p = (O.take k).countP p + (O.drop k).countP p := by rw [← List.countP_append, List.take_append_drop]
  have h1 : (O.take k).countP p ≤ (O.take k).length := List.countP_le_length
  have h2 : (O.drop k).countP p = 0 := List.countP_eq_zero.2 fun a ha => by
    obtain ⟨i, hi, rfl⟩ := List.getElem_of_mem ha
    rw [List.length_drop] at hi
    rw [List.getElem_drop]
    have := h (k + i) (by omega) (by omega)
    have e : O.getD (k + i) 0 = O[k + i]'(by omega) := by simp [show k + i < O.length by omega]
    rw [e] at this
    simp [this]
  have h3 : (O.take k).length ≤ k := by rw [List.length_take]; omega
  omega
theorem cnt_drop {p : Nat → Bool} {O : List Nat} {k : Nat} (h : ∀ q, q < k → q < O.length → p (O.getD q 0) = false) : O.countP p ≤ O.length - k := by
  have e : O.countP p = (O.take k).countP p + (O.drop k).countP p := by rw [← List.countP_append, List.take_append_drop]
  have h1 : (O.drop k).countP p ≤ (O.drop k).length := List.countP_le_length
  have h2 : (O.take k).countP p = 0 := List.countP_eq_zero.2 fun a ha => by
    obtain ⟨i, hi, rfl⟩ := List.getElem_of_mem ha
    rw [List.length_take] at hi
    rw [List.getElem_take]
    have := h i (by omega) (by omega)
    have e : O.getD i 0 = O[i]'(by omega) := by simp [show i < O.length by omega]
    rw [e] at this
    simp [this]
  have h3 : (O.drop k).length = O.length - k := List.length_drop
  omega
/-- of an order along which no day is surely quieter than one before it: positions lie within ranks -/
theorem rk_pos {A : List (Int × Int)} {O : List Nat} {n : Nat} (S : MO A O n) (hq : ∀ i j, i < j → j < n → qt A O j i = false) {p : Nat} (hp : p < n) : (rkS (spAt A) n (O.getD p 0)).1 ≤ (p : Int) + 1 ∧ (p : Int) + 1 ≤ (rkS (spAt A) n (O.getD p 0)).2 := by
  have hself : quiet (spAt A) (O.getD p 0) (O.getD p 0) = false := by
    have := S.ha.at (i := O.getD p 0) (by rw [S.la]; exact S.lt hp)
    unfold quiet
    simp only [decide_eq_false_iff_not]
    omega
  rw [rkS_cnt]
  have h1 := S.hp.countP_eq fun x => quiet (spAt A) x (O.getD p 0)
  have h2 := S.hp.countP_eq fun x => quiet (spAt A) (O.getD p 0) x
  rw [← h1, ← h2]
  have c1 : (O.countP fun x => quiet (spAt A) x (O.getD p 0)) ≤ p := cnt_take fun q hq1 hq2 => by
    rw [S.lo] at hq2
    by_cases e : p = q
    · subst e; exact hself
    · exact hq p q (by omega) hq2
  have c2 : (O.countP fun x => quiet (spAt A) (O.getD p 0) x) ≤ O.length - (p + 1) := cnt_drop fun q hq1 hq2 => by
    by_cases e : q = p
    · subst e; exact hself
    · exact hq q p (by omega) hp
  rw [S.lo] at c2
  simp only []
  omega
theorem srt_MO {A : List (Int × Int)} {n : Nat} (H : OkM A) (hA : A.length = n) (n5 : n ≤ 5) (g : Nat → Nat) (m : Nat) : MO A (srt (tvF A g m) n) n := ⟨H, hA, srt_len, n5, srt_perm⟩
theorem srt_q {A : List (Int × Int)} {n : Nat} (H : OkM A) (hA : A.length = n) (n5 : n ≤ 5) (g : Nat → Nat) (m : Nat) : ∀ i j, i < j → j < n → qt A (srt (tvF A g m) n) j i = false := by
  intro i j hij hj
  have S := srt_MO H hA n5 g m
  have b1 := tvF_bd (g := g) (m := m) H (j := (srt (tvF A g m) n).getD i 0) (by rw [hA]; exact S.lt (by omega))
  have b2 := tvF_bd (g := g) (m := m) H (j := (srt (tvF A g m) n).getD j 0) (by rw [hA]; exact S.lt hj)
  have := srt_sort (tv := tvF A g m) i j hij hj
  unfold qt quiet
  simp only [decide_eq_false_iff_not]
  omega
theorem filt_has {p : Nat → Bool} {n i : Nat} (hi : i < n) : ((List.range n).filter p).contains i = p i := by
  apply Bool.eq_iff_iff.2
  rw [List.contains_iff_mem, List.mem_filter]
  simp [hi]
theorem pos_eq {A : List (Int × Int)} {O : List Nat} {n : Nat} (S : MO A O n) (hq : ∀ i j, i < j → j < n → qt A O j i = false) : posS (spAt A) n (ntAt O) n = 0 := by
  unfold posS
  rw [ord_eq S, if_neg (by decide)]
  rcases flt_eq S with ⟨h1, _⟩ | ⟨r, s, _, _, h3, h4, h5, _⟩
  · rw [h1]; rfl
  · rw [hq r s h3 h4] at h5; exact absurd h5 (by decide)
section
variable (off n0 c off2 m c2 k : Nat) {cs cs2 : List Value} {own own2 : Bool} {g : Nat → Nat × Nat} {g2 : Nat → Nat}
theorem c7 (hc : WeC cs off n0 g) (hc2 : ByC cs2 off2 m g2) (hk : k < 256) :
    LL.run 7 [sl 0 off n0 c, sl 1 off2 m c2, uv k] [.cells cs 2 true own, .cells cs2 1 true own2] = some ⟨.bool true, [], []⟩ := by
  have a1 := fun b1 => k35 off n0 c 0 (h := [.cells cs 2 true own, b1]) rfl hc
  have hM := madR_M (g := g) (n := n0)
  obtain ⟨g1, g5, glo⟩ := madR_ok (g := g) (n := n0)
  generalize madR g n0 = A at *
  obtain ⟨n, hn⟩ : ∃ n, A.length = n := ⟨_, rfl⟩
  have n5 : n ≤ 5 := by omega
  have S := srt_MO hM hn n5 g2 m
  have Q := srt_q hM hn n5 g2 m
  have h1 := l7 (.cells cs 2 true own) (own2 := own2) off2 m c2 k n hc2 hM hn n5 (fun a ha => by have := glo a ha; omega) n 0 (by omega)
  rw [rB_zero] at h1
  have P := @rk_pos _ _ _ S Q
  have hpos := pos_eq S Q
  rw [show srt (tvF A g2 m) 0 = [] from rfl] at h1
  generalize srt (tvF A g2 m) n = O at *
  have hA := spAt_C A
  have hO := nm_C O
  rw [hn] at a1 hA
  rw [S.lo] at hO
  have chk := hM.chk
  rw [hn] at chk
  obtain ⟨kk, ekk⟩ : ∃ kk, k % n = kk := ⟨_, rfl⟩
  have hkk : kk < n := by rw [← ekk]; exact Nat.mod_lt _ (by omega)
  have tk : Int.tmod (k : Int) (n : Int) = (kk : Int) := by rw [Int.tmod_eq_emod_of_nonneg (by omega)]; omega
  have hne : (n : Int) ≠ 0 := by omega
  have m1 : (n : Int) * 8 ≤ 70368744177664 := by omega
  have m2 : (n : Int) ≤ 70368744177664 := by omega
  have a2 := fun b0 b1 b3 => k17 2 0 n n (h := [b0, b1, spB A, b3]) rfl hA (by omega)
  have a3 := fun b0 b1 b3 b4 => k19 2 0 n n ((1 + kk : Nat) : Int) (h := [b0, b1, spB A, b3, b4]) rfl hA (by omega)
  have a4 := fun b0 b1 bx => k37 2 0 n n 3 0 n n (h := b0 :: b1 :: spB A :: nB O :: bx) rfl rfl (by decide) hA hO (by omega)
  rw [hpos] at a4
  have hK : (decide ((1 : Int) ≤ ((1 + kk : Nat) : Int)) && decide (((1 + kk : Nat) : Int) ≤ (n : Int))) = true := by simp; omega
  unfold rksR at a2
  unfold qstC qstD qstE at a3
  rw [if_pos chk, chk, rkR_len] at a2
  rw [if_pos ⟨chk, hK⟩, if_pos ⟨chk, hK⟩, if_neg (by simp [chk]), if_pos hK] at a3
  have l2 := l7b (.cells cs 2 true own) (.cells cs2 1 true own2) (rkR (spAt A) n) (canF (rkS (spAt A) n) ((1 + kk : Nat) : Int) n) (sureF (rkS (spAt A) n) ((1 + kk : Nat) : Int) n) O n (1 + kk) n5 rkR_len S.lo (by have := @filt_len (fun j => decide ((rkS (spAt A) n j).1 ≤ ((1 + kk : Nat) : Int))) n; unfold canF; omega) (by have := @filt_len (fun j => decide ((rkS (spAt A) n j).2 ≤ ((1 + kk : Nat) : Int))) n; unfold sureF; omega)
    (fun p hp => S.lt hp) (fun p hp => by rw [rkR_at (S.lt hp)]; exact P hp)
    (fun p hp hpk => by
      unfold canF
      rw [filt_has (S.lt hp), decide_eq_true_eq]
      have := (P hp).1; omega)
    (fun p hp hpk => by
      unfold sureF
      rw [filt_has (S.lt hp), decide_eq_false_iff_not]
      have := (P hp).2; omega) n 0 (by omega)
  have lO := S.lo
  simp only [spB, nB, nm_nil] at a1 a2 a3 a4 h1 l2
  clear P Q S hM hA hO chk hK hpos glo
  simp only [Int.natCast_zero, Int.natCast_add, Int.natCast_one] at h1 l2 a3
  generalize canF (rkS (spAt A) n) (1 + (kk : Int)) n = C at *
  generalize sureF (rkS (spAt A) n) (1 + (kk : Int)) n = D at *
  generalize (rkR (spAt A) n).flatMap spG = R at *
  generalize A.flatMap spG = N at *
  generalize nm O = O1 at *
  generalize nm C = C1 at *
  generalize nm D = D1 at *
  refine go (by decide) ?_
  rw [run7 _ _ _ (by simp)]
  simp (maxSteps := 1000000) (disch := first | omega | decide | assumption | simp [scal]) [lenA_sl lk_22, o_indexAddrS es_22, loadA_eq ia_55, za_55, sz_55, o_fieldAddr fa_55_0 (by decide), loadA_eq ia_3, o_indexAddrS es_24, sz_3, lenA_sl lk_53, o_indexAddrS es_53, loadA_eq ia_5, o_convI cv_5_3, o_fieldAddr fa_55_1 (by decide), ze_24, o_buildSlice es_24 ze_24 (by decide) ba_24_1, ap_24, builtin_append ni_24, lenA_sl lk_24, want_some q7_39g2, want_some q7_56g2, want_some q7_56g6, want_some q7_56g13, want_some q7_78g8, want_some q7_78g18, want_some q7_78g22, want_some q7_78g29, want_some q7_78g33, k14, a1, mk24, m1, m2, h1, tk, hne, a2, a3, a4, l2]
end
end Go.Proofs.Ytfccmddkblbeoaa.rk
