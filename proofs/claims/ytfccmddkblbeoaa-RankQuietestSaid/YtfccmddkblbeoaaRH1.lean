/-
  Contracts of functions of the program at the limit evaluator. No condition.
-/
import Derived.Test.YtfccmddkblbeoaaRHN
import Derived.Test.YtfccmddkblbeoaaE40
namespace Go.Proofs.Ytfccmddkblbeoaa.rk
open Go.GE
set_option linter.unusedVariables false
set_option linter.unusedSimpArgs false
set_option linter.unusedSectionVars false
set_option maxRecDepth 100000
set_option maxHeartbeats 4000000
attribute [local simp] runOps_nil runOps_cons runOpsF_nil runOpsF_cons fstS_some fstF_some opStep_eq want_none oStep_true oStep_false fin_pure fin_read fin_alloc fin_write storeB wrN cellV addWr o_move o_assign o_pick o_alloc o_box o_load o_store o_nilCheck o_bin o_un o_extract o_callV o_callB o_callI callV_f callV_y callV_fc o_makeFunc partsA Instr.fill builtin_len builtin_max2 bin_add bin_sub bin_mul bin_quo bin_rem bin_lss bin_leq bin_gtr bin_geq bin_eql bin_neq un_neg un_not bin_shr bin_shl wrap_u64_id opd opds optAll putO nbeq nblt constOk isC ops sub cl cr co bodyOf thenS_normal thenS_ret thenS_exit thenS_goto afterN_normal afterN_ret afterN_exit afterN_goto condS_true condS_false blockS_normal blockS_ret blockS_exit blockS_goto headS normS normK_eq fixS_nil fixS_cons fix1 fixV emptyB keepO_nil keepO_cons roundC_normal roundC_exit roundC_ret roundC_goto sweep_eq sweepD rnm pickR pickW rootsB ptrT renT ptrFn renFn ptrB_flat ptrB_non renB_flat renB_non plainS_some drawS_some fpsOk disj unord range' dropTo enumT undef wrap_i64_id Value.cells mkCells ptrTo scal cellsAt rdN endS_ret resultsA Option.bind_some tupV finish reachN dep ptrL_eq ptrL renL_eq renL ptrV_bool ptrV_int ptrV_string ptrV_nilFunc ptrV_nilIface ptrV_nilPtr ptrV_ptr ptrV_nilSl ptrV_sl ptrV_iface ptrV_agg ptrV_tuple ptrV_func renV_bool renV_int renV_string renV_nilFunc renV_nilIface renV_nilPtr renV_ptr renV_nilSl renV_sl renV_iface renV_agg renV_tuple renV_func gotoS_goto gotoS_normal gotoS_exit gotoS_ret skip_seq sliceE bnd bndHi intOf optOpd keepT_nil keepT_cons keepC_t keepC_f lk_nil lk_cons lkC_t lkC_f has_nil has_cons hasC_t hasC_f rep_nil rep_cons repC_t repC_f put_eq putC_t putC_f mem_nil mem_cons memC_t memC_f idx_nil idx_cons idxC_t idxC_f reach_nil reachP_cons reachQ_t reachQ_f ptrB_dead renB_dead ins_eq
attribute [local simp] n57_1s n57_3s n57_4s n57_2s n57_0s Try.f57 n75_1s n75_3s n75_4s n75_2s n75_0s Try.f75 n82_1s n82_4s n82_8s n82_11s n82_12s n82_10s n82_16s n82_18s n82_21s n82_22s n82_20s n82_23s n82_19s n82_17s n82_15s n82_14s n82_24s n82_13s n82_9s n82_7s n82_6s n82_6g n82_5s n82_3s n82_26s n82_27s n82_25s n82_2s n82_0s Try.f82
theorem other {f : FuncId} (hf : (14 : Nat) ≠ f) (a : List Value) (h : List Blk) : (wk.wtab.keep kpT).run f a h = none := by
  show GE.tabR [wk.ew] f a h = none
  have : Nat.beq wk.ew.f f = false := GE.beq_false.2 hf
  simp only [tabR, this, Bool.false_and, cond_false]
theorem go {f : FuncId} {args : List Value} {h : List Blk} {r : RR} (hf : (14 : Nat) ≠ f) (he : runB Try.prog LL f args h = some r) : LL.run f args h = some r := L_run (other hf _ _) he
theorem k14 (h : List Blk) : callH LL 14 [] h = some ⟨.bool true, h, [], []⟩ := callH_plain (L_tab rfl) rfl rfl
abbrev sl (b off n c : Nat) : Value := .slice (some ⟨b, off, none⟩) n c
abbrev pp (b : Nat) : Value := .pointer (some ⟨b, 0, none⟩)
/-- cells of spans -/
def SpC (cs : List Value) (off n : Nat) (l : Nat → Int × Int) : Prop := ∀ i, i < n → cs[off + i * 2]? = some (iv (l i).1) ∧ cs[off + i * 2 + 1]? = some (iv (l i).2)
/-- cells of integers -/
def InC (cs : List Value) (off n : Nat) (o : Nat → Int) : Prop := ∀ i, i < n → cs[off + i]? = some (iv (o i))
theorem k57 (a b c : Int) (h : List Blk) : callH LL 57 [iv a, iv b, iv c] h = some ⟨.bool (decide (a ≤ b) && decide (b ≤ c)), h, [], []⟩ := by
  refine callH_plain (go (by decide) ?_) rfl rfl
  rw [run57 _ _ _ (by simp)]
  by_cases h1 : a ≤ b <;> by_cases h2 : b ≤ c <;>
  simp (maxSteps := 1000000) (disch := first | omega | decide | assumption | simp [scal]) [want_some q57_3g3, h1, h2]
/-- a month's day that is not valid -/
def bad (s : Int × Int) : Bool := !(decide (0 ≤ s.1) && decide (s.1 ≤ s.2)) || decide (100000 < s.2)
theorem k75 (x y : Int) (h : List Blk) : callH LL 75 [.agg #[iv x, iv y]] h = some ⟨.bool (bad (x, y)), h, [], []⟩ := by
  refine callH_none rfl (fun _ => rfl) (go (by decide) ?_) fun _ => rfl
  rw [run75 _ _ _ (by simp)]
  cases h1 : (decide (0 ≤ x) && decide (x ≤ y))
  · simp (maxSteps := 1000000) (disch := first | omega | decide | assumption | simp [scal]) [o_fieldAddr fa_55_0 (by decide), loadA_eq ia_3, o_fieldAddr fa_55_1 (by decide), want_some q75_3g6, h1, k57, bad]
  · by_cases h2 : (100000 : Int) < y
    · simp (maxSteps := 1000000) (disch := first | omega | decide | assumption | simp [scal]) [o_fieldAddr fa_55_0 (by decide), loadA_eq ia_3, o_fieldAddr fa_55_1 (by decide), want_some q75_3g6, h1, h2, k57, bad]
    · simp (maxSteps := 1000000) (disch := first | omega | decide | assumption | simp [scal]) [o_fieldAddr fa_55_0 (by decide), loadA_eq ia_3, o_fieldAddr fa_55_1 (by decide), want_some q75_3g6, h1, h2, k57, bad]
def idxL (l : Nat → Int × Int) : Nat → Nat → Int
  | 0, _ => -1
  | k + 1, i => if bad (l i) = true then i else idxL l k (i + 1)
def anyB (l : Nat → Int × Int) : Nat → Nat → Bool
  | 0, _ => false
  | k + 1, i => bad (l i) || anyB l k (i + 1)
theorem idx_any {l : Nat → Int × Int} : ∀ k i, decide (0 ≤ idxL l k i) = anyB l k i := by
  intro k
  induction k with
  | zero => intro i; rfl
  | succ k ih =>
    intro i
    unfold idxL anyB
    cases h : bad (l i)
    · simp [ih]
    · simp
theorem any_iff {l : Nat → Int × Int} {n : Nat} : anyB l n 0 = false ↔ ∀ i, i < n → bad (l i) = false := by
  have key : ∀ k i, anyB l k i = false ↔ ∀ j, i ≤ j → j < i + k → bad (l j) = false := by
    intro k
    induction k with
    | zero => intro i; simp only [anyB, true_iff]; intro j h1 h2; omega
    | succ k ih =>
      intro i
      simp only [anyB, Bool.or_eq_false_iff, ih]
      constructor
      · rintro ⟨h1, h2⟩ j h3 h4
        by_cases hj : j = i
        · subst hj; exact h1
        · exact h2 j (by omega) (by omega)
      · intro h
        exact ⟨h i (by omega) (by omega), fun j h1 h2 => h j (by omega) (by omega)⟩
  rw [key]
  constructor
  · intro h i hi; exact h i (by omega) (by omega)
  · intro h j _ hj; exact h j (by omega)
section
variable (off n c : Nat) (cs : List Value) (own : Bool) (l : Nat → Int × Int)
theorem l82 (hc : SpC cs off n l) (hn : n ≤ 60) : ∀ k i : Nat, i + k = n →
    lpB Try.prog LL ⟨82, 19, 1, none⟩ n82_6 n82_7 ⟨[(0, sl 0 off n c), (1, .func (.func 75) #[] #[]), (7, iv n), (8, iv i)], [.cells cs 2 true own], []⟩ =
      if idxL l k i = -1 then some (.exit 0, ⟨[], [.cells cs 2 true own], []⟩) else some (.ret, ⟨[(4, iv (idxL l k i))], [.cells cs 2 true own], []⟩) := by
  intro k
  induction k with
  | zero =>
    intro i hi
    obtain rfl : i = n := by omega
    rw [lpB_eq]
    simp (maxSteps := 1000000) (disch := first | omega | decide | assumption | simp [scal]) [lenA_sl lk_22, o_indexAddrS es_22, loadA_eq ia_55, idxL]
  | succ k ih =>
    intro i hi
    have e1 : i < n := by omega
    have this := ih (i + 1) (by omega)
    obtain ⟨e2, e3⟩ := hc i e1
    obtain ⟨x, y, hxy⟩ : ∃ x y, l i = (x, y) := ⟨_, _, rfl⟩
    rw [hxy] at e2 e3
    unfold idxL
    rw [hxy]
    rw [lpB_eq]
    simp only [cast1] at this
    cases h1 : bad (x, y)
    · simp (maxSteps := 1000000) (disch := first | omega | decide | assumption | simp [scal]) [lenA_sl lk_22, o_indexAddrS es_22, loadA_eq ia_55, e1, e2, e3, k75, h1, this]
    · have : ¬ ((i : Int) = -1) := by omega
      simp (maxSteps := 1000000) (disch := first | omega | decide | assumption | simp [scal]) [lenA_sl lk_22, o_indexAddrS es_22, loadA_eq ia_55, e1, e2, e3, k75, h1, this]
end
end Go.Proofs.Ytfccmddkblbeoaa.rk
namespace Go.Proofs.Ytfccmddkblbeoaa.rk
open Go.GE
set_option linter.unusedVariables false
set_option linter.unusedSimpArgs false
set_option linter.unusedSectionVars false
set_option maxRecDepth 100000
set_option maxHeartbeats 4000000
attribute [local simp] runOps_nil runOps_cons runOpsF_nil runOpsF_cons fstS_some fstF_some opStep_eq want_none oStep_true oStep_false fin_pure fin_read fin_alloc fin_write storeB wrN cellV addWr o_move o_assign o_pick o_alloc o_box o_load o_store o_nilCheck o_bin o_un o_extract o_callV o_callB o_callI callV_f callV_y callV_fc o_makeFunc partsA Instr.fill builtin_len builtin_max2 bin_add bin_sub bin_mul bin_quo bin_rem bin_lss bin_leq bin_gtr bin_geq bin_eql bin_neq un_neg un_not bin_shr bin_shl wrap_u64_id opd opds optAll putO nbeq nblt constOk isC ops sub cl cr co bodyOf thenS_normal thenS_ret thenS_exit thenS_goto afterN_normal afterN_ret afterN_exit afterN_goto condS_true condS_false blockS_normal blockS_ret blockS_exit blockS_goto headS normS normK_eq fixS_nil fixS_cons fix1 fixV emptyB keepO_nil keepO_cons roundC_normal roundC_exit roundC_ret roundC_goto sweep_eq sweepD rnm pickR pickW rootsB ptrT renT ptrFn renFn ptrB_flat ptrB_non renB_flat renB_non plainS_some drawS_some fpsOk disj unord range' dropTo enumT undef wrap_i64_id Value.cells mkCells ptrTo scal cellsAt rdN endS_ret resultsA Option.bind_some tupV finish reachN dep ptrL_eq ptrL renL_eq renL ptrV_bool ptrV_int ptrV_string ptrV_nilFunc ptrV_nilIface ptrV_nilPtr ptrV_ptr ptrV_nilSl ptrV_sl ptrV_iface ptrV_agg ptrV_tuple ptrV_func renV_bool renV_int renV_string renV_nilFunc renV_nilIface renV_nilPtr renV_ptr renV_nilSl renV_sl renV_iface renV_agg renV_tuple renV_func gotoS_goto gotoS_normal gotoS_exit gotoS_ret skip_seq sliceE bnd bndHi intOf optOpd keepT_nil keepT_cons keepC_t keepC_f lk_nil lk_cons lkC_t lkC_f has_nil has_cons hasC_t hasC_f rep_nil rep_cons repC_t repC_f put_eq putC_t putC_f mem_nil mem_cons memC_t memC_f idx_nil idx_cons idxC_t idxC_f reach_nil reachP_cons reachQ_t reachQ_f ptrB_dead renB_dead ins_eq
attribute [local simp] n82_1s n82_4s n82_8s n82_11s n82_12s n82_10s n82_16s n82_18s n82_21s n82_22s n82_20s n82_23s n82_19s n82_17s n82_15s n82_14s n82_24s n82_13s n82_9s n82_7s n82_6s n82_6g n82_5s n82_3s n82_26s n82_27s n82_25s n82_2s n82_0s Try.f82 n74_1s n74_3s n74_4s n74_2s n74_0s Try.f74 n45_1s n45_5s n45_8s n45_9s n45_7s n45_11s n45_14s n45_15s n45_13s n45_17s n45_20s n45_21s n45_19s n45_22s n45_18s n45_16s n45_12s n45_10s n45_6s n45_4s n45_3s n45_24s n45_25s n45_23s n45_2s n45_0s Try.f45 n77_1s n77_3s n77_4s n77_2s n77_0s Try.f77
/-- a month's check -/
def chkS (l : Nat → Int × Int) (n : Nat) : Int := if n = 0 then 2 else if 30 < n then 3 else if anyB l n 0 = true then 1 else 0
def quiet (l : Nat → Int × Int) (i k : Nat) : Bool := decide ((l i).2 < (l k).1)
section
variable (b off n c : Nat) {cs : List Value} {own : Bool} {l : Nat → Int × Int} {h : List Blk} (hb : h[b]? = some (.cells cs 2 true own)) (hc : SpC cs off n l)
include hb hc
theorem k82 (hn : n ≤ 60) : callH LL 82 [sl b off n c, .func (.func 75) #[] #[]] h = some ⟨iv (idxL l n 0), h, [b], []⟩ := by
  refine callH_1 rfl hb noIdB_flat (args' := [sl 0 off n c, .func (.func 75) #[] #[]]) (by simp [renV, dep, optAll, idx, nbeq]) (go (by decide) ?_) fun _ => rfl
  rw [run82 _ _ _ (by simp)]
  have this := l82 off n c cs own l hc hn n 0 (by omega)
  by_cases h1 : idxL l n 0 = -1
  · rw [if_pos h1] at this
    simp only [Int.natCast_zero] at this
    rw [h1]
    simp (maxSteps := 1000000) (disch := first | omega | decide | assumption | simp [scal]) [lenA_sl lk_22, o_indexAddrS es_22, loadA_eq ia_55, this]
  · rw [if_neg h1] at this
    simp only [Int.natCast_zero] at this
    simp (maxSteps := 1000000) (disch := first | omega | decide | assumption | simp [scal]) [lenA_sl lk_22, o_indexAddrS es_22, loadA_eq ia_55, this]
theorem k74 (hn : n ≤ 60) : callH LL 74 [sl b off n c, .func (.func 75) #[] #[]] h = some ⟨.bool (anyB l n 0), h, [b], []⟩ := by
  refine callH_1 rfl hb noIdB_flat (args' := [sl 0 off n c, .func (.func 75) #[] #[]]) (by simp [renV, dep, optAll, idx, nbeq]) (go (by decide) ?_) fun _ => rfl
  rw [run74 _ _ _ (by simp)]
  have a := k82 0 off n c (h := [.cells cs 2 true own]) rfl hc hn
  have e := idx_any (l := l) n 0
  generalize idxL l n 0 = x at *
  rw [← e]
  by_cases h1 : 0 ≤ x <;>
  simp (maxSteps := 1000000) (disch := first | omega | decide | assumption | simp [scal]) [a, h1]
theorem k45 (hn : n ≤ 60) : callH LL 45 [sl b off n c] h = some ⟨iv (chkS l n), h, [b], []⟩ := by
  refine callH_1 rfl hb noIdB_flat (args' := [sl 0 off n c]) (by simp [renV, dep, optAll, idx, nbeq]) (go (by decide) ?_) fun _ => rfl
  rw [run45 _ _ _ (by simp)]
  unfold chkS
  by_cases h1 : n = 0
  · subst h1
    simp (maxSteps := 1000000) (disch := first | omega | decide | assumption | simp [scal]) [lenA_sl lk_22]
  have h1' : ¬ ((n : Int) = 0) := by omega
  by_cases h2 : 30 < n
  · have h2' : (30 : Int) < n := by omega
    simp (maxSteps := 1000000) (disch := first | omega | decide | assumption | simp [scal]) [lenA_sl lk_22, h1, h1', h2, h2']
  have h2' : ¬ (30 : Int) < n := by omega
  have a := k74 0 off n c (h := [.cells cs 2 true own]) rfl hc hn
  cases h3 : anyB l n 0 <;> rw [h3] at a
  · simp (maxSteps := 1000000) (disch := first | omega | decide | assumption | simp [scal]) [lenA_sl lk_22, h1, h1', h2, h2', a]
  · simp (maxSteps := 1000000) (disch := first | omega | decide | assumption | simp [scal]) [lenA_sl lk_22, h1, h1', h2, h2', a]
theorem k77 (i k : Nat) (hi : i < n) (hk : k < n) : callH LL 77 [sl b off n c, iv i, iv k] h = some ⟨.bool (quiet l i k), h, [b], []⟩ := by
  refine callH_1 rfl hb noIdB_flat (args' := [sl 0 off n c, iv i, iv k]) (by simp [renV, dep, optAll, idx, nbeq]) (go (by decide) ?_) fun _ => rfl
  rw [run77 _ _ _ (by simp)]
  obtain ⟨e1, e2⟩ := hc i hi
  obtain ⟨e3, e4⟩ := hc k hk
  by_cases h1 : (l i).2 < (l k).1 <;>
  simp (maxSteps := 1000000) (disch := first | omega | decide | assumption | simp [scal]) [o_indexAddrS es_78, o_fieldAddr fa_55_1 (by decide), loadA_eq ia_3, o_fieldAddr fa_55_0 (by decide), hi, hk, e1, e2, e3, e4, quiet, h1]
end
end Go.Proofs.Ytfccmddkblbeoaa.rk
namespace Go.Proofs.Ytfccmddkblbeoaa.rk
open Go.GE
set_option linter.unusedVariables false
set_option linter.unusedSimpArgs false
set_option linter.unusedSectionVars false
set_option maxRecDepth 100000
set_option maxHeartbeats 4000000
abbrev wv (n : Nat) : Value := .int .u32 (n : Int)
theorem wrap_u32 {n : Nat} (h : n < 2 ^ 32) : IntKind.u32.wrap (n : Int) = n := by simp [IntKind.wrap, IntKind.bits, IntKind.signed]; omega
theorem bin_and1w {P : Program} {t : TypeId} {c : Bool} {w : Nat} (h : w < 2 ^ 32) : binA P .and t c (.int .u32 (w : Int)) (.int .u32 1) = some (.int .u32 ((w % 2 : Nat) : Int)) := by
  have e : (BitVec.ofInt 32 (w : Int) &&& BitVec.ofInt 32 1).toNat = w % 2 := by
    rw [BitVec.ofInt_natCast]
    rw [show BitVec.ofInt 32 1 = BitVec.ofNat 32 1 from rfl, BitVec.toNat_and, BitVec.toNat_ofNat, BitVec.toNat_ofNat, Nat.mod_eq_of_lt h, Nat.mod_eq_of_lt (by decide : 1 < 2 ^ 32), Nat.and_one_is_mod]
  have e' : IntKind.u32.wrap ((BitVec.ofInt 32 (w : Int) &&& BitVec.ofInt 32 1).toNat : Int) = ((w % 2 : Nat) : Int) := by rw [e]; exact wrap_u32 (by omega)
  show some (Value.int .u32 (IntKind.u32.wrap ((BitVec.ofInt 32 (w : Int) &&& BitVec.ofInt 32 1).toNat : Int))) = _
  rw [e']
theorem fdiv_poww {w i : Nat} (hi : i < 32) : ((w : Int).fdiv (2 ^ min i IntKind.u32.bits)) = ((w / 2 ^ i : Nat) : Int) := by
  rw [show min i IntKind.u32.bits = i from Nat.min_eq_left (Nat.le_of_lt hi), Int.fdiv_eq_ediv_of_nonneg _ (by exact_mod_cast Nat.zero_le _)]
  simp
theorem shl_poww {J : Nat} (hJ : J < 32) : IntKind.u32.wrap (2 ^ min J IntKind.u32.bits) = ((2 ^ J : Nat) : Int) := by
  rw [show min J IntKind.u32.bits = J from Nat.min_eq_left (Nat.le_of_lt hJ), show ((2 : Int) ^ J) = ((2 ^ J : Nat) : Int) by simp]
  exact wrap_u32 (Nat.pow_lt_pow_right (by decide) hJ)
/-- whether a number stands among the k places from j on -/
def seenK (o : Nat → Int) (x : Int) : Nat → Nat → Bool
  | 0, _ => false
  | k + 1, j => decide (o j = x) || seenK o x k (j + 1)
theorem seen_iff {o : Nat → Int} {x : Int} : ∀ k j, seenK o x k j = true ↔ ∃ p, j ≤ p ∧ p < j + k ∧ o p = x := by
  intro k
  induction k with
  | zero => intro j; simp only [seenK, Bool.false_eq_true, false_iff]; rintro ⟨p, h1, h2, _⟩; omega
  | succ k ih =>
    intro j
    simp only [seenK, Bool.or_eq_true, decide_eq_true_eq, ih]
    constructor
    · rintro (h | ⟨p, h1, h2, h3⟩)
      · exact ⟨j, by omega, by omega, h⟩
      · exact ⟨p, by omega, by omega, h3⟩
    · rintro ⟨p, h1, h2, h3⟩
      by_cases hp : p = j
      · subst hp; exact .inl h3
      · exact .inr ⟨p, by omega, by omega, h3⟩
/-- what is wrong with an order, from the i-th day on -/
def ordL (o : Nat → Int) (n : Nat) : Nat → Nat → Int
  | 0, _ => 0
  | k + 1, i => if (decide (0 ≤ o i) && decide (o i ≤ (n : Int) - 1)) = false then 6 else if seenK o (o i) i 0 = true then 7 else ordL o n k (i + 1)
def ordS (l : Nat → Int × Int) (n : Nat) (o : Nat → Int) (m : Nat) : Int := if chkS l n ≠ 0 then chkS l n else if m ≠ n then 4 else ordL o n m 0
theorem so_ren {b off n c b2 off2 m c2 : Nat} {vs : List Value} (hne : b ≠ b2) (hv : vs.all scal = true) : optAll (renV (idx [b, b2]) dep) (sl b off n c :: sl b2 off2 m c2 :: vs) = some (sl 0 off n c :: sl 1 off2 m c2 :: vs) := by
  have e1 : renV (idx [b, b2]) dep (sl b off n c) = some (sl 0 off n c) := by simp [renV, dep, idx, nbeq]
  have e2 : renV (idx [b, b2]) dep (sl b2 off2 m c2) = some (sl 1 off2 m c2) := by simp [renV, dep, idx, nbeq, hne, hne.symm]
  have e3 : ∀ vs : List Value, vs.all scal = true → optAll (renV (idx [b, b2]) dep) vs = some vs := by
    intro vs hv
    induction vs with
    | nil => rfl
    | cons v vs ih =>
      simp only [List.all_cons, Bool.and_eq_true] at hv
      have e : renV (idx [b, b2]) dep v = some v := by cases v <;> simp [scal] at hv <;> rfl
      simp only [optAll, e, ih hv.2]
  simp only [optAll, e1, e2, e3 vs hv]
end Go.Proofs.Ytfccmddkblbeoaa.rk
namespace Go.Proofs.Ytfccmddkblbeoaa.rk
open Go.GE
set_option linter.unusedVariables false
set_option linter.unusedSimpArgs false
set_option linter.unusedSectionVars false
set_option maxRecDepth 100000
set_option maxHeartbeats 4000000
/-- the place q of a fault at p -/
def fltQ (l : Nat → Int × Int) (o : Nat → Int) (p : Nat) : Nat → Nat → Option Nat
  | 0, _ => none
  | k + 1, q => if quiet l (o q).toNat (o p).toNat = true then some q else fltQ l o p k (q + 1)
def fltP (l : Nat → Int × Int) (o : Nat → Int) (m : Nat) : Nat → Nat → Option (Nat × Nat)
  | 0, _ => none
  | k + 1, p => match fltQ l o p (m - (p + 1)) (p + 1) with
    | some q => some (p, q)
    | none => fltP l o m k (p + 1)
def posS (l : Nat → Int × Int) (n : Nat) (o : Nat → Int) (m : Nat) : Int := if ordS l n o m ≠ 0 then ordS l n o m else if (fltP l o m m 0).isSome then 13 else 0
end Go.Proofs.Ytfccmddkblbeoaa.rk
namespace Go.Proofs.Ytfccmddkblbeoaa.rk
open Go.GE
set_option linter.unusedVariables false
set_option linter.unusedSimpArgs false
set_option linter.unusedSectionVars false
set_option maxRecDepth 100000
set_option maxHeartbeats 4000000
section
open Go.ChangeShapes Go.WideShapes Go.RowKit
variable {H : Type} {enc : TypeId × Value → H} {W : World} {base b0 : Nat} {v : Value} {d : DataW H} {p : List MemPlace}
abbrev spG (p : Int × Int) : List Value := [iv p.1, iv p.2]
end
end Go.Proofs.Ytfccmddkblbeoaa.rk
namespace Go.GE
end Go.GE
namespace Go.Proofs.Ytfccmddkblbeoaa.rk
open Go.GE
set_option linter.unusedVariables false
set_option linter.unusedSimpArgs false
set_option linter.unusedSectionVars false
set_option maxRecDepth 100000
set_option maxHeartbeats 4000000
attribute [local simp] runOps_nil runOps_cons runOpsF_nil runOpsF_cons fstS_some fstF_some opStep_eq want_none oStep_true oStep_false fin_pure fin_read fin_alloc fin_write storeB wrN cellV addWr o_move o_assign o_pick o_alloc o_box o_load o_store o_nilCheck o_bin o_un o_extract o_callV o_callB o_callI callV_f callV_y callV_fc o_makeFunc partsA Instr.fill builtin_len builtin_max2 bin_add bin_sub bin_mul bin_quo bin_rem bin_lss bin_leq bin_gtr bin_geq bin_eql bin_neq un_neg un_not bin_shr bin_shl wrap_u64_id opd opds optAll putO nbeq nblt constOk isC ops sub cl cr co bodyOf thenS_normal thenS_ret thenS_exit thenS_goto afterN_normal afterN_ret afterN_exit afterN_goto condS_true condS_false blockS_normal blockS_ret blockS_exit blockS_goto headS normS normK_eq fixS_nil fixS_cons fix1 fixV emptyB keepO_nil keepO_cons roundC_normal roundC_exit roundC_ret roundC_goto sweep_eq sweepD rnm pickR pickW rootsB ptrT renT ptrFn renFn ptrB_flat ptrB_non renB_flat renB_non plainS_some drawS_some fpsOk disj unord range' dropTo enumT undef wrap_i64_id Value.cells mkCells ptrTo scal cellsAt rdN endS_ret resultsA Option.bind_some tupV finish reachN dep ptrL_eq ptrL renL_eq renL ptrV_bool ptrV_int ptrV_string ptrV_nilFunc ptrV_nilIface ptrV_nilPtr ptrV_ptr ptrV_nilSl ptrV_sl ptrV_iface ptrV_agg ptrV_tuple ptrV_func renV_bool renV_int renV_string renV_nilFunc renV_nilIface renV_nilPtr renV_ptr renV_nilSl renV_sl renV_iface renV_agg renV_tuple renV_func gotoS_goto gotoS_normal gotoS_exit gotoS_ret skip_seq sliceE bnd bndHi intOf optOpd keepT_nil keepT_cons keepC_t keepC_f lk_nil lk_cons lkC_t lkC_f has_nil has_cons hasC_t hasC_f rep_nil rep_cons repC_t repC_f put_eq putC_t putC_f mem_nil mem_cons memC_t memC_f idx_nil idx_cons idxC_t idxC_f reach_nil reachP_cons reachQ_t reachQ_f ptrB_dead renB_dead ins_eq
attribute [local simp] n44_1s n44_3s n44_6s n44_11s n44_13s n44_14s n44_12s n44_10s n44_17s n44_16s n44_18s n44_15s n44_9s n44_8s n44_8g n44_7s n44_5s n44_20s n44_21s n44_19s n44_4s n44_2s n44_0s Try.f44 n35_1s n35_3s n35_6s n35_11s n35_13s n35_14s n35_12s n35_10s n35_18s n35_19s n35_17s n35_16s n35_20s n35_15s n35_9s n35_8s n35_8g n35_7s n35_5s n35_23s n35_25s n35_26s n35_24s n35_22s n35_28s n35_29s n35_27s n35_21s n35_4s n35_2s n35_0s Try.f35
abbrev uv (n : Nat) : Value := .int .u8 (n : Int)
/-- cells of a weather's days: pairs of bytes -/
def WeC (cs : List Value) (off n : Nat) (g : Nat → Nat × Nat) : Prop := ∀ i, i < n → (cs[off + i * 2]? = some (uv (g i).1) ∧ cs[off + i * 2 + 1]? = some (uv (g i).2)) ∧ (g i).1 < 256 ∧ (g i).2 < 256
def madD (g : Nat → Nat × Nat) (i : Nat) : Int × Int := (((g i).1 : Int) % 14, ((g i).1 : Int) % 14 + ((g i).2 : Int) % 6)
def madR (g : Nat → Nat × Nat) (n : Nat) : List (Int × Int) := if n = 0 then [(3, 4)] else (List.range (min n 5)).map (madD g)
theorem tm14 {z : Nat} : ((z : Int).tmod 14) = (z : Int) % 14 := Int.tmod_eq_emod_of_nonneg (by omega)
theorem tm6 {z : Nat} : ((z : Int).tmod 6) = (z : Int) % 6 := Int.tmod_eq_emod_of_nonneg (by omega)
/-- a list of spans as a block; a list as a month -/
abbrev spB (A : List (Int × Int)) : Blk := .cells (A.flatMap spG) 2 true true
def spAt (A : List (Int × Int)) (i : Nat) : Int × Int := A.getD i (0, 0)
theorem spAt_C (A : List (Int × Int)) : SpC (A.flatMap spG) 0 A.length (spAt A) := by
  intro i hi
  have hz : A[i]? = some (spAt A i) := by simp [spAt, hi]
  refine ⟨?_, ?_⟩
  · have := flat_get (g := spG) (k := 2) (fun _ => rfl) hz (j := 0) (by omega); simpa [spG] using this
  · have := flat_get (g := spG) (k := 2) (fun _ => rfl) hz (j := 1) (by omega); simpa [spG] using this
theorem k44 (h : List Blk) (b : Nat) (hb : h[b]? = some (.cells [iv 3, iv 4] 1 true true)) : callH LL 44 [sl b 0 2 2] h = some ⟨sl h.length 0 1 1, h ++ [.cells [iv 3, iv 4] 2 true true], [b], []⟩ := by
  refine callN_1 rfl hb noIdB_flat (args' := [sl 0 0 2 2]) (by simp [renV, dep, optAll, idx, nbeq]) (v := sl 1 0 1 1) (news := [.cells [iv 3, iv 4] 2 true true]) (go (by decide) ?_) (by intro blk hb; simp at hb; subst hb; exact noIdB_flat) (by simp [renV, dep])
  have l2 : lpB Try.prog LL ⟨44, 26, 1, none⟩ n44_8 n44_9 ⟨[(0, sl 0 0 2 2), (3, sl 1 0 1 1), (4, iv 2)], [.cells [iv 3, iv 4] 1 true true, .cells [iv 3, iv 4] 2 true true], []⟩ = some (.exit 0, ⟨[(3, sl 1 0 1 1)], [.cells [iv 3, iv 4] 1 true true, .cells [iv 3, iv 4] 2 true true], []⟩) := by
    rw [lpB_eq]
    simp (maxSteps := 1000000) (disch := first | omega | decide | assumption | simp [scal]) [lenA_sl lk_24, o_indexAddrS es_24, loadA_eq ia_3, za_55, o_build za_55 pl_55, o_indexAddrS es_22, ze_22, o_buildSlice es_22 ze_22 (by decide) ba_22_1, ap_22, builtin_append ni_22]
  have l1 : lpB Try.prog LL ⟨44, 26, 1, none⟩ n44_8 n44_9 ⟨[(0, sl 0 0 2 2), (3, sl 1 0 0 0), (4, iv 0)], [.cells [iv 3, iv 4] 1 true true, .cells [] 2 true true], []⟩ = some (.exit 0, ⟨[(3, sl 1 0 1 1)], [.cells [iv 3, iv 4] 1 true true, .cells [iv 3, iv 4] 2 true true], []⟩) := by
    have c1 := fun hp b c rd => app_list (h := hp) (b := b) (c := c) (k := 2) (by' := 16) (l := 0) (cs := []) (new := [iv 3, iv 4]) (rd := rd) rfl (by omega) (by omega) rfl
    rw [lpB_eq]
    simp (maxSteps := 1000000) (disch := first | omega | decide | assumption | simp [scal]) [lenA_sl lk_24, o_indexAddrS es_24, loadA_eq ia_3, za_55, o_build za_55 pl_55, o_indexAddrS es_22, ze_22, o_buildSlice es_22 ze_22 (by decide) ba_22_1, ap_22, builtin_append ni_22, append_some ap_22, srcCells, c1, l2]
  rw [run44 _ _ _ (by simp)]
  simp (maxSteps := 1000000) (disch := first | omega | decide | assumption | simp [scal]) [lenA_sl lk_24, o_indexAddrS es_24, loadA_eq ia_3, za_55, o_build za_55 pl_55, o_indexAddrS es_22, ze_22, o_buildSlice es_22 ze_22 (by decide) ba_22_1, ap_22, builtin_append ni_22, l1]
section
variable (off n c : Nat) {cs : List Value} {own : Bool} {g : Nat → Nat × Nat}
theorem l35 (hc : WeC cs off n g) : ∀ (q i : Nat), i + q = min n 5 →
    lpB Try.prog LL ⟨35, 43, 1, none⟩ n35_8 n35_9 ⟨[(0, sl 0 off n c), (3, sl 1 0 i i), (4, iv i)], [.cells cs 2 true own, spB ((List.range i).map (madD g))], []⟩ =
      some (.exit 0, ⟨[(3, sl 1 0 (min n 5) (min n 5))], [.cells cs 2 true own, spB ((List.range (min n 5)).map (madD g))], []⟩) := by
  intro q
  induction q with
  | zero =>
    intro i hi
    obtain rfl : i = min n 5 := by omega
    generalize (List.range (min n 5)).map (madD g) = F at *
    generalize hm : min n 5 = M at *
    rw [lpB_eq]
    by_cases e1 : M < n
    · have e2 : ¬ M < 5 := by omega
      have e3 : ¬ (M : Int) < 5 := by omega
      simp (maxSteps := 1000000) (disch := first | omega | decide | assumption | simp [scal]) [lenA_sl lk_47, o_indexAddrS es_47, o_indexAddrA ea_60, loadA_eq ia_5, o_convI cv_5_3, za_55, o_build za_55 pl_55, o_indexAddrS es_22, ze_22, o_buildSlice es_22 ze_22 (by decide) ba_22_1, ap_22, builtin_append ni_22, lenA_sl lk_22, o_indexAddrS es_24, ze_24, o_buildSlice es_24 ze_24 (by decide) ba_24_2, want_some q35_11g4, e1, e3]
    · simp (maxSteps := 1000000) (disch := first | omega | decide | assumption | simp [scal]) [lenA_sl lk_47, o_indexAddrS es_47, o_indexAddrA ea_60, loadA_eq ia_5, o_convI cv_5_3, za_55, o_build za_55 pl_55, o_indexAddrS es_22, ze_22, o_buildSlice es_22 ze_22 (by decide) ba_22_1, ap_22, builtin_append ni_22, lenA_sl lk_22, o_indexAddrS es_24, ze_24, o_buildSlice es_24 ze_24 (by decide) ba_24_2, want_some q35_11g4, e1]
  | succ q ih =>
    intro i hi
    have e1 : i < n := by omega
    have e3 : (i : Int) < 5 := by omega
    obtain ⟨⟨p1, p2⟩, g1, g2⟩ := hc _ e1
    have this := ih (i + 1) (by omega)
    have c1 := fun hp b c rd => app_list (h := hp) (b := b) (c := c) (k := 2) (by' := 16) (l := i) (cs := ((List.range i).map (madD g)).flatMap spG) (new := spG (madD g i)) (rd := rd) (by rw [flat_len (k := 2) (fun _ => rfl)]; simp) (by omega) (by omega) rfl
    simp only [spB] at this ⊢
    rw [List.range_succ, List.map_append, List.map_cons, List.map_nil, List.flatMap_append, List.flatMap_cons, List.flatMap_nil, List.append_nil] at this
    generalize (List.range (min n 5)).map (madD g) = F at *
    generalize ((List.range i).map (madD g)).flatMap spG = G at *
    rw [show spG (madD g i) = [iv (((g i).1 : Int) % 14), iv (((g i).1 : Int) % 14 + ((g i).2 : Int) % 6)] from rfl] at this c1
    generalize g i = y at *
    obtain ⟨y0, y1⟩ := y
    simp only [cast1] at this
    simp only [] at c1 p1 p2 g1 g2
    rw [lpB_eq]
    simp (maxSteps := 1000000) (disch := first | omega | decide | assumption | simp [scal]) [lenA_sl lk_47, o_indexAddrS es_47, o_indexAddrA ea_60, loadA_eq ia_5, o_convI cv_5_3, za_55, o_build za_55 pl_55, o_indexAddrS es_22, ze_22, o_buildSlice es_22 ze_22 (by decide) ba_22_1, ap_22, builtin_append ni_22, lenA_sl lk_22, o_indexAddrS es_24, ze_24, o_buildSlice es_24 ze_24 (by decide) ba_24_2, want_some q35_11g4, e1, e3, p1, p2, tm14, tm6, append_some ap_22, srcCells, c1, this]
variable (b : Nat) {h : List Blk} (hb : h[b]? = some (.cells cs 2 true own))
include hb
theorem k35 (hc : WeC cs off n g) : callH LL 35 [sl b off n c] h = some ⟨sl h.length 0 (madR g n).length (madR g n).length, h ++ [spB (madR g n)], [b], []⟩ := by
  refine callN_1 rfl hb noIdB_flat (args' := [sl 0 off n c]) (by simp [renV, dep, optAll, idx, nbeq]) (v := sl 1 0 (madR g n).length (madR g n).length) (news := [spB (madR g n)]) (go (by decide) ?_) (by intro blk hb; simp only [List.mem_singleton] at hb; subst hb; exact noIdB_flat) (by simp [renV, dep])
  have this := l35 off n c (own := own) hc (min n 5) 0 (by omega)
  simp only [spB, List.range_zero, List.map_nil, List.flatMap_nil, Int.natCast_zero] at this ⊢
  rw [run35 _ _ _ (by simp)]
  unfold madR
  by_cases h0 : n = 0
  · subst h0
    simp only [Nat.zero_min, List.range_zero, List.map_nil, List.flatMap_nil] at this
    have a := fun b0 b1 bx => k44 (b0 :: b1 :: .cells [iv 3, iv 4] 1 true true :: bx) 2 rfl
    simp (maxSteps := 1000000) (disch := first | omega | decide | assumption | simp [scal]) [lenA_sl lk_47, o_indexAddrS es_47, o_indexAddrA ea_60, loadA_eq ia_5, o_convI cv_5_3, za_55, o_build za_55 pl_55, o_indexAddrS es_22, ze_22, o_buildSlice es_22 ze_22 (by decide) ba_22_1, ap_22, builtin_append ni_22, lenA_sl lk_22, o_indexAddrS es_24, ze_24, o_buildSlice es_24 ze_24 (by decide) ba_24_2, want_some q35_11g4, this, a]
  · have hm : 0 < min n 5 := by omega
    have hm' : ¬ ((min n 5 : Nat) : Int) = 0 := by omega
    rw [if_neg h0]
    have hl : ((List.range (min n 5)).map (madD g)).length = min n 5 := by simp
    rw [hl]
    generalize (List.range (min n 5)).map (madD g) = F at *
    generalize min n 5 = M at *
    have h0' : ¬ M = 0 := by omega
    simp (maxSteps := 1000000) (disch := first | omega | decide | assumption | simp [scal]) [lenA_sl lk_47, o_indexAddrS es_47, o_indexAddrA ea_60, loadA_eq ia_5, o_convI cv_5_3, za_55, o_build za_55 pl_55, o_indexAddrS es_22, ze_22, o_buildSlice es_22 ze_22 (by decide) ba_22_1, ap_22, builtin_append ni_22, lenA_sl lk_22, o_indexAddrS es_24, ze_24, o_buildSlice es_24 ze_24 (by decide) ba_24_2, want_some q35_11g4, this, hm', h0']
end
end Go.Proofs.Ytfccmddkblbeoaa.rk
namespace Go.Proofs.Ytfccmddkblbeoaa.rk
open Go.GE
set_option linter.unusedVariables false
set_option linter.unusedSimpArgs false
set_option linter.unusedSectionVars false
set_option maxRecDepth 100000
set_option maxHeartbeats 4000000
/-- numbers as cells -/
def nm (L : List Nat) : List Value := L.map fun (x : Nat) => iv x
theorem nm_len {L : List Nat} : (nm L).length = L.length := by simp [nm]
theorem nm_app {L M : List Nat} : nm (L ++ M) = nm L ++ nm M := by simp [nm]
theorem nm_one {x : Nat} : nm [x] = [iv x] := rfl
theorem nm_nil : nm [] = [] := rfl
theorem nm_all {L : List Nat} : (nm L).all cellV = true := by
  rw [List.all_eq_true]
  intro v hv
  obtain ⟨x, _, rfl⟩ := List.mem_map.1 hv
  rfl
theorem nm_get {L : List Nat} {i : Nat} (h : i < L.length) : (nm L)[i]? = some (iv (L.getD i 0)) := by simp [nm, h]
def ntAt (L : List Nat) (i : Nat) : Int := (L.getD i 0 : Nat)
theorem nm_C (L : List Nat) : InC (nm L) 0 L.length (ntAt L) := by
  intro i hi
  rw [Nat.zero_add]
  exact nm_get hi
abbrev nB (L : List Nat) : Blk := .cells (nm L) 1 true true
end Go.Proofs.Ytfccmddkblbeoaa.rk
namespace Go.Proofs.Ytfccmddkblbeoaa.rk
open Go.GE
set_option linter.unusedVariables false
set_option linter.unusedSimpArgs false
set_option linter.unusedSectionVars false
set_option maxRecDepth 100000
set_option maxHeartbeats 4000000
attribute [local simp] runOps_nil runOps_cons runOpsF_nil runOpsF_cons fstS_some fstF_some opStep_eq want_none oStep_true oStep_false fin_pure fin_read fin_alloc fin_write storeB wrN cellV addWr o_move o_assign o_pick o_alloc o_box o_load o_store o_nilCheck o_bin o_un o_extract o_callV o_callB o_callI callV_f callV_y callV_fc o_makeFunc partsA Instr.fill builtin_len builtin_max2 bin_add bin_sub bin_mul bin_quo bin_rem bin_lss bin_leq bin_gtr bin_geq bin_eql bin_neq un_neg un_not bin_shr bin_shl wrap_u64_id opd opds optAll putO nbeq nblt constOk isC ops sub cl cr co bodyOf thenS_normal thenS_ret thenS_exit thenS_goto afterN_normal afterN_ret afterN_exit afterN_goto condS_true condS_false blockS_normal blockS_ret blockS_exit blockS_goto headS normS normK_eq fixS_nil fixS_cons fix1 fixV emptyB keepO_nil keepO_cons roundC_normal roundC_exit roundC_ret roundC_goto sweep_eq sweepD rnm pickR pickW rootsB ptrT renT ptrFn renFn ptrB_flat ptrB_non renB_flat renB_non plainS_some drawS_some fpsOk disj unord range' dropTo enumT undef wrap_i64_id Value.cells mkCells ptrTo scal cellsAt rdN endS_ret resultsA Option.bind_some tupV finish reachN dep ptrL_eq ptrL renL_eq renL ptrV_bool ptrV_int ptrV_string ptrV_nilFunc ptrV_nilIface ptrV_nilPtr ptrV_ptr ptrV_nilSl ptrV_sl ptrV_iface ptrV_agg ptrV_tuple ptrV_func renV_bool renV_int renV_string renV_nilFunc renV_nilIface renV_nilPtr renV_ptr renV_nilSl renV_sl renV_iface renV_agg renV_tuple renV_func gotoS_goto gotoS_normal gotoS_exit gotoS_ret skip_seq sliceE bnd bndHi intOf optOpd keepT_nil keepT_cons keepC_t keepC_f lk_nil lk_cons lkC_t lkC_f has_nil has_cons hasC_t hasC_f rep_nil rep_cons repC_t repC_f put_eq putC_t putC_f mem_nil mem_cons memC_t memC_f idx_nil idx_cons idxC_t idxC_f reach_nil reachP_cons reachQ_t reachQ_f ptrB_dead renB_dead ins_eq
attribute [local simp] n51_1s n51_3s n51_6s n51_10s n51_13s n51_14s n51_12s n51_18s n51_20s n51_22s n51_25s n51_26s n51_24s n51_27s n51_23s n51_21s n51_19s n51_17s n51_16s n51_28s n51_15s n51_11s n51_9s n51_8s n51_8g n51_7s n51_5s n51_30s n51_31s n51_29s n51_4s n51_2s n51_0s Try.f51
def mx (a b : Int) : Int := if a < b then b else a
/-- whether ranges can rise along an order, from the i-th day on -/
def risL (l : Nat → Int × Int) (o : Nat → Int) : Nat → Nat → Int → Bool
  | 0, _, _ => true
  | k + 1, i, last => if (l (o i).toNat).2 < mx last (l (o i).toNat).1 then false else risL l o k (i + 1) (mx last (l (o i).toNat).1)
section
variable (off n c off2 m c2 : Nat) (cs cs2 : List Value) (own own2 : Bool) (l : Nat → Int × Int) (o : Nat → Int)
  (hc : SpC cs off n l) (hc2 : InC cs2 off2 m o) (hm : m ≤ 60) (ho : ∀ j, j < m → 0 ≤ o j ∧ o j < n)
include hc hc2 hm ho
theorem l51 : ∀ (k i : Nat) (last : Int), i + k = m →
    lpB Try.prog LL ⟨51, 29, 2, none⟩ n51_8 n51_9 ⟨[(0, sl 0 off n c), (5, iv last), (8, sl 1 off2 m c2), (9, iv m), (10, iv i)], [.cells cs 2 true own, .cells cs2 1 true own2], []⟩ =
      if risL l o k i last = true then some (.exit 0, ⟨[], [.cells cs 2 true own, .cells cs2 1 true own2], []⟩) else some (.ret, ⟨[(4, .bool false)], [.cells cs 2 true own, .cells cs2 1 true own2], []⟩) := by
  intro k
  induction k with
  | zero =>
    intro i last hi
    obtain rfl : i = m := by omega
    rw [lpB_eq]
    simp (maxSteps := 1000000) (disch := first | omega | decide | assumption | simp [scal]) [lenA_sl lk_24, o_indexAddrS es_24, loadA_eq ia_3, o_indexAddrS es_22, o_fieldAddr fa_55_0 (by decide), o_fieldAddr fa_55_1 (by decide), risL]
  | succ k ih =>
    intro i last hi
    have e1 : i < m := by omega
    have e1' : (i : Int) < m := by omega
    have e3 := hc2 i e1
    obtain ⟨x, hx⟩ : ∃ x : Nat, o i = x := ⟨(o i).toNat, by have := ho i e1; omega⟩
    have hxn : x < n := by have := ho i e1; omega
    obtain ⟨e4, e5⟩ := hc x hxn
    unfold risL
    rw [hx] at e3 ⊢
    rw [Int.toNat_natCast]
    have this := ih (i + 1) (mx last (l x).1) (by omega)
    simp only [cast1] at this
    generalize l x = y at *
    obtain ⟨lo, hi⟩ := y
    simp only [] at e4 e5 this ⊢
    rw [lpB_eq]
    unfold mx at this ⊢
    by_cases h1 : last < lo
    · rw [if_pos h1] at this ⊢
      by_cases h2 : hi < lo
      · simp (maxSteps := 1000000) (disch := first | omega | decide | assumption | simp [scal]) [lenA_sl lk_24, o_indexAddrS es_24, loadA_eq ia_3, o_indexAddrS es_22, o_fieldAddr fa_55_0 (by decide), o_fieldAddr fa_55_1 (by decide), e1, e1', e3, e4, e5, hxn, h1, h2]
      · simp (maxSteps := 1000000) (disch := first | omega | decide | assumption | simp [scal]) [lenA_sl lk_24, o_indexAddrS es_24, loadA_eq ia_3, o_indexAddrS es_22, o_fieldAddr fa_55_0 (by decide), o_fieldAddr fa_55_1 (by decide), e1, e1', e3, e4, e5, hxn, h1, h2, this]
    · rw [if_neg h1] at this ⊢
      by_cases h2 : hi < last
      · simp (maxSteps := 1000000) (disch := first | omega | decide | assumption | simp [scal]) [lenA_sl lk_24, o_indexAddrS es_24, loadA_eq ia_3, o_indexAddrS es_22, o_fieldAddr fa_55_0 (by decide), o_fieldAddr fa_55_1 (by decide), e1, e1', e3, e4, e5, hxn, h1, h2]
      · simp (maxSteps := 1000000) (disch := first | omega | decide | assumption | simp [scal]) [lenA_sl lk_24, o_indexAddrS es_24, loadA_eq ia_3, o_indexAddrS es_22, o_fieldAddr fa_55_0 (by decide), o_fieldAddr fa_55_1 (by decide), e1, e1', e3, e4, e5, hxn, h1, h2, this]
end
section
variable (b off n c b2 off2 m c2 : Nat) {cs cs2 : List Value} {own own2 : Bool} {l : Nat → Int × Int} {o : Nat → Int} {h : List Blk}
  (hb : h[b]? = some (.cells cs 2 true own)) (hb2 : h[b2]? = some (.cells cs2 1 true own2)) (hne : b ≠ b2) (hc : SpC cs off n l) (hc2 : InC cs2 off2 m o)
include hb hb2 hne hc hc2
theorem k51 (hm : m ≤ 60) (ho : ∀ j, j < m → 0 ≤ o j ∧ o j < n) : callH LL 51 [sl b off n c, sl b2 off2 m c2] h = some ⟨.bool (risL l o m 0 0), h, [b, b2], []⟩ := by
  refine callH_2 rfl hb hb2 hne noIdB_flat noIdB_flat (so_ren hne rfl) (go (by decide) ?_) fun _ => rfl
  rw [run51 _ _ _ (by simp)]
  have this := l51 off n c off2 m c2 cs cs2 own own2 l o hc hc2 hm ho m 0 0 (by omega)
  simp only [Int.natCast_zero] at this
  cases h1 : risL l o m 0 0
  · rw [h1, if_neg (by decide)] at this
    simp (maxSteps := 1000000) (disch := first | omega | decide | assumption | simp [scal]) [lenA_sl lk_24, o_indexAddrS es_24, loadA_eq ia_3, o_indexAddrS es_22, o_fieldAddr fa_55_0 (by decide), o_fieldAddr fa_55_1 (by decide), this]
  · rw [h1, if_pos rfl] at this
    simp (maxSteps := 1000000) (disch := first | omega | decide | assumption | simp [scal]) [lenA_sl lk_24, o_indexAddrS es_24, loadA_eq ia_3, o_indexAddrS es_22, o_fieldAddr fa_55_0 (by decide), o_fieldAddr fa_55_1 (by decide), this]
end
theorem ris_iff {l : Nat → Int × Int} {o : Nat → Int} : ∀ (k i : Nat) (last : Int), risL l o k i last = true ↔ (∀ j, i ≤ j → j < i + k → last ≤ (l (o j).toNat).2) ∧ ∀ j j', i ≤ j → j ≤ j' → j' < i + k → (l (o j).toNat).1 ≤ (l (o j').toNat).2 := by
  intro k
  induction k with
  | zero => intro i last; simp only [risL, true_iff]; exact ⟨fun j h1 h2 => by omega, fun j j' h1 h2 h3 => by omega⟩
  | succ k ih =>
    intro i last
    unfold risL
    have hmx : ∀ a b z : Int, mx a b ≤ z ↔ a ≤ z ∧ b ≤ z := by intro a b z; unfold mx; split <;> omega
    by_cases h : (l (o i).toNat).2 < mx last (l (o i).toNat).1
    · rw [if_pos h]
      simp only [Bool.false_eq_true, false_iff]
      rintro ⟨h1, h2⟩
      have a1 := h1 i (by omega) (by omega)
      have a2 := h2 i i (by omega) (by omega) (by omega)
      have := (hmx last (l (o i).toNat).1 (l (o i).toNat).2).2 ⟨a1, a2⟩
      omega
    · rw [if_neg h, ih]
      have h' := (hmx last (l (o i).toNat).1 (l (o i).toNat).2).1 (by omega)
      constructor
      · rintro ⟨h1, h2⟩
        refine ⟨fun j a1 a2 => ?_, fun j j' a1 a2 a3 => ?_⟩
        · by_cases hj : j = i
          · subst hj; exact h'.1
          · exact ((hmx _ _ _).1 (h1 j (by omega) (by omega))).1
        · by_cases hj : j = i
          · subst hj
            by_cases hj' : j' = j
            · subst hj'; exact h'.2
            · exact ((hmx _ _ _).1 (h1 j' (by omega) (by omega))).2
          · exact h2 j j' (by omega) a2 (by omega)
      · rintro ⟨h1, h2⟩
        exact ⟨fun j a1 a2 => (hmx _ _ _).2 ⟨h1 j (by omega) (by omega), h2 i j (by omega) (by omega) (by omega)⟩, fun j j' a1 a2 a3 => h2 j j' (by omega) a2 (by omega)⟩
theorem fltQ_iff {l : Nat → Int × Int} {o : Nat → Int} {p : Nat} : ∀ (k q : Nat), (fltQ l o p k q = none ∧ ∀ j, q ≤ j → j < q + k → quiet l (o j).toNat (o p).toNat = false) ∨ ∃ r, fltQ l o p k q = some r ∧ q ≤ r ∧ r < q + k ∧ quiet l (o r).toNat (o p).toNat = true ∧ ∀ j, q ≤ j → j < r → quiet l (o j).toNat (o p).toNat = false := by
  intro k
  induction k with
  | zero => intro q; exact .inl ⟨rfl, fun j h1 h2 => by omega⟩
  | succ k ih =>
    intro q
    unfold fltQ
    cases h : quiet l (o q).toNat (o p).toNat
    · rw [if_neg (by decide)]
      rcases ih (q + 1) with ⟨h1, h2⟩ | ⟨r, h1, h2, h3, h4, h5⟩
      · refine .inl ⟨h1, fun j a1 a2 => ?_⟩
        by_cases hj : j = q
        · subst hj; exact h
        · exact h2 j (by omega) (by omega)
      · refine .inr ⟨r, h1, by omega, by omega, h4, fun j a1 a2 => ?_⟩
        by_cases hj : j = q
        · subst hj; exact h
        · exact h5 j (by omega) (by omega)
    · rw [if_pos rfl]
      exact .inr ⟨q, rfl, by omega, by omega, h, fun j a1 a2 => by omega⟩
theorem fltP_iff {l : Nat → Int × Int} {o : Nat → Int} {m : Nat} : ∀ (k p : Nat), p + k = m → (fltP l o m k p = none ∧ ∀ i j, p ≤ i → i < j → j < m → quiet l (o j).toNat (o i).toNat = false) ∨
    ∃ r s, fltP l o m k p = some (r, s) ∧ p ≤ r ∧ r < s ∧ s < m ∧ quiet l (o s).toNat (o r).toNat = true ∧ ∀ i j, p ≤ i → i < j → j < m → (i < r ∨ i = r ∧ j < s) → quiet l (o j).toNat (o i).toNat = false := by
  intro k
  induction k with
  | zero => intro p hp; exact .inl ⟨rfl, fun i j h1 h2 h3 => by omega⟩
  | succ k ih =>
    intro p hp
    unfold fltP
    rcases fltQ_iff (l := l) (o := o) (p := p) (m - (p + 1)) (p + 1) with ⟨h1, h2⟩ | ⟨r, h1, h2, h3, h4, h5⟩
    · rw [h1]
      rcases ih (p + 1) (by omega) with ⟨g1, g2⟩ | ⟨r, s, g1, g2, g3, g4, g5, g6⟩
      · refine .inl ⟨g1, fun i j a1 a2 a3 => ?_⟩
        by_cases hi : i = p
        · subst hi; exact h2 j (by omega) (by omega)
        · exact g2 i j (by omega) a2 a3
      · refine .inr ⟨r, s, g1, by omega, g3, g4, g5, fun i j a1 a2 a3 a4 => ?_⟩
        by_cases hi : i = p
        · subst hi; exact h2 j (by omega) (by omega)
        · exact g6 i j (by omega) a2 a3 a4
    · rw [h1]
      refine .inr ⟨p, r, rfl, by omega, by omega, by omega, h4, fun i j a1 a2 a3 a4 => ?_⟩
      obtain rfl : i = p := by omega
      exact h5 j (by omega) (by omega)
/-- spans that make a month -/
def OkM (A : List (Int × Int)) : Prop := 1 ≤ A.length ∧ A.length ≤ 30 ∧ ∀ a ∈ A, 0 ≤ a.1 ∧ a.1 ≤ a.2 ∧ a.2 ≤ 100000
theorem madR_ok {g : Nat → Nat × Nat} {n : Nat} : 1 ≤ (madR g n).length ∧ (madR g n).length ≤ 5 ∧ ∀ a ∈ madR g n, 0 ≤ a.1 ∧ a.1 ≤ a.2 ∧ a.2 < 19 := by
  unfold madR
  split
  · simp
  · refine ⟨by simp; omega, by simp; omega, fun a ha => ?_⟩
    obtain ⟨i, _, rfl⟩ := List.mem_map.1 ha
    simp only [madD]
    omega
theorem OkM.at {A : List (Int × Int)} (H : OkM A) {i : Nat} (hi : i < A.length) : 0 ≤ (spAt A i).1 ∧ (spAt A i).1 ≤ (spAt A i).2 ∧ (spAt A i).2 ≤ 100000 := by
  have e : spAt A i = A[i] := by simp [spAt, hi]
  rw [e]
  exact H.2.2 _ (List.getElem_mem hi)
theorem OkM.chk {A : List (Int × Int)} (H : OkM A) : chkS (spAt A) A.length = 0 := by
  obtain ⟨h1, h2, h3⟩ := H
  unfold chkS
  rw [if_neg (by omega), if_neg (by omega), if_neg]
  have : anyB (spAt A) A.length 0 = false := any_iff.2 fun i hi => by
    have := OkM.at ⟨h1, h2, h3⟩ hi
    unfold bad
    simp only [Bool.or_eq_false_iff, Bool.not_eq_false', Bool.and_eq_true, decide_eq_true_eq, decide_eq_false_iff_not]
    omega
  rw [this]; decide
theorem madR_M {g : Nat → Nat × Nat} {n : Nat} : OkM (madR g n) := by
  obtain ⟨h1, h2, h3⟩ := madR_ok (g := g) (n := n)
  exact ⟨h1, by omega, fun a ha => by have := h3 a ha; omega⟩
/-- an order of all days -/
theorem perm_ord {O : List Nat} {n : Nat} (h : O.Perm (List.range n)) : ordL (ntAt O) n n 0 = 0 ∧ ∀ j, j < n → 0 ≤ ntAt O j ∧ ntAt O j < n := by
  have hl : O.length = n := by have := h.length_eq; simpa using this
  have hmem : ∀ j, j < n → O.getD j 0 < n := fun j hj => by
    have e : O.getD j 0 = O[j] := by simp [hl, hj]
    rw [e]
    have := h.mem_iff.1 (List.getElem_mem (l := O) (n := j) (by omega))
    simpa using this
  have hnd : O.Nodup := h.nodup_iff.2 List.nodup_range
  have key : ∀ k i, i + k = n → ordL (ntAt O) n k i = 0 := by
    intro k
    induction k with
    | zero => intro i _; rfl
    | succ k ih =>
      intro i hi
      unfold ordL
      have h1 := hmem i (by omega)
      rw [if_neg (by unfold ntAt; generalize O.getD i 0 = z at *; simp; omega), if_neg, ih (i + 1) (by omega)]
      rw [seen_iff]
      rintro ⟨p, a1, a2, a3⟩
      have e1 : O.getD p 0 = O[p] := by simp [show p < O.length by omega]
      have e2 : O.getD i 0 = O[i] := by simp [show i < O.length by omega]
      unfold ntAt at a3
      rw [e1, e2] at a3
      have := (List.getElem_inj (h₀ := show p < O.length by omega) (h₁ := show i < O.length by omega) hnd).1 (by omega)
      omega
  exact ⟨key n 0 (by omega), fun j hj => by have := hmem j hj; unfold ntAt; omega⟩
end Go.Proofs.Ytfccmddkblbeoaa.rk
namespace Go.Proofs.Ytfccmddkblbeoaa.rk
open Go.GE
set_option linter.unusedVariables false
set_option linter.unusedSimpArgs false
set_option linter.unusedSectionVars false
set_option maxRecDepth 100000
set_option maxHeartbeats 4000000
/-- a month and an order of its days -/
structure MO (A : List (Int × Int)) (O : List Nat) (n : Nat) : Prop where
  ha : OkM A
  la : A.length = n
  lo : O.length = n
  n5 : n ≤ 5
  hp : O.Perm (List.range n)
theorem MO.lt {A : List (Int × Int)} {O : List Nat} {n : Nat} (S : MO A O n) {i : Nat} (hi : i < n) : O.getD i 0 < n := by
  have := ((perm_ord S.hp).2 i hi).2
  unfold ntAt at this
  omega
/-- the j-th day of an order is surely quieter than the i-th -/
def qt (A : List (Int × Int)) (O : List Nat) (j i : Nat) : Bool := quiet (spAt A) (O.getD j 0) (O.getD i 0)
theorem ord_eq {A : List (Int × Int)} {O : List Nat} {n : Nat} (S : MO A O n) : ordS (spAt A) n (ntAt O) n = 0 := by
  unfold ordS
  have := S.ha.chk
  rw [S.la] at this
  rw [if_neg (by simp [this]), if_neg (by simp), (perm_ord S.hp).1]
theorem ris_eq {A : List (Int × Int)} {O : List Nat} {n : Nat} (S : MO A O n) : risL (spAt A) (ntAt O) n 0 0 = true ↔ ∀ i j, i < j → j < n → qt A O j i = false := by
  rw [ris_iff]
  have hz : ∀ j, (ntAt O j).toNat = O.getD j 0 := fun j => Int.toNat_natCast _
  have ok : ∀ j, j < n → 0 ≤ (spAt A (O.getD j 0)).1 ∧ (spAt A (O.getD j 0)).1 ≤ (spAt A (O.getD j 0)).2 := fun j hj => by
    have := S.ha.at (i := O.getD j 0) (by rw [S.la]; exact S.lt hj)
    omega
  simp only [hz, qt, quiet, decide_eq_false_iff_not]
  constructor
  · rintro ⟨_, h⟩ i j h1 h2
    have := h i j (by omega) (by omega) (by omega)
    omega
  · intro h
    refine ⟨fun j _ h2 => by have := ok j (by omega); omega, fun j j' _ h2 h3 => ?_⟩
    by_cases hj : j = j'
    · subst hj; exact (ok j (by omega)).2
    · have := h j j' (by omega) (by omega); omega
theorem flt_eq {A : List (Int × Int)} {O : List Nat} {n : Nat} (S : MO A O n) : (fltP (spAt A) (ntAt O) n n 0 = none ∧ risL (spAt A) (ntAt O) n 0 0 = true) ∨
    ∃ r s, fltP (spAt A) (ntAt O) n n 0 = some (r, s) ∧ risL (spAt A) (ntAt O) n 0 0 = false ∧ r < s ∧ s < n ∧ qt A O s r = true ∧ ∀ i j, i < j → j < n → (i < r ∨ i = r ∧ j < s) → qt A O j i = false := by
  have hz : ∀ j, (ntAt O j).toNat = O.getD j 0 := fun j => Int.toNat_natCast _
  rcases fltP_iff (l := spAt A) (o := ntAt O) (m := n) n 0 (by omega) with ⟨h1, h2⟩ | ⟨r, s, h1, _, h2, h3, h4, h5⟩
  · refine .inl ⟨h1, (ris_eq S).2 fun i j a b => ?_⟩
    have := h2 i j (by omega) a b
    rw [hz, hz] at this
    exact this
  · simp only [hz] at h4 h5
    refine .inr ⟨r, s, h1, ?_, h2, h3, h4, fun i j a b c => h5 i j (by omega) a b c⟩
    cases hr : risL (spAt A) (ntAt O) n 0 0
    · rfl
    · have := (ris_eq S).1 hr r s h2 h3
      unfold qt at this
      rw [h4] at this
      exact this
end Go.Proofs.Ytfccmddkblbeoaa.rk
namespace Go.Proofs.Ytfccmddkblbeoaa.rk
open Go.GE
set_option linter.unusedVariables false
set_option linter.unusedSimpArgs false
set_option linter.unusedSectionVars false
set_option maxRecDepth 100000
set_option maxHeartbeats 4000000
section
open Go.ChangeShapes Go.WideShapes Go.RowKit
variable {H : Type} {enc : TypeId × Value → H} {W : World} {base b0 : Nat} {v : Value} {d : DataW H} {p : List MemPlace}
def weOf (zs : List (List Int)) (i : Nat) : Nat × Nat := (((zs.getD i []).getD 0 0).toNat, ((zs.getD i []).getD 1 0).toNat)
theorem we_flat {zs : List (List Int)} (h : ∀ z ∈ zs, wfs [.u8, .u8] z) : WeC (zs.flatMap (ints [.u8, .u8])) 0 zs.length (weOf zs) := by
  have e : zs.flatMap (ints [.u8, .u8]) = zs.flatMap fun z => [uv (z.getD 0 0).toNat, uv (z.getD 1 0).toNat] := by
    induction zs with
    | nil => rfl
    | cons z zs ih =>
      have h0 := h z (by simp)
      have h1 := h0.1
      have h2 : wfs (List.replicate 2 .u8) z := h0
      match z, h1, h2 with
      | [a, b], _, h2 =>
        obtain ⟨x, rfl, _⟩ := nat_of (b := 255) (u8_wf (wfs_get h2 (z := a) (by simp)))
        obtain ⟨y, rfl, _⟩ := nat_of (b := 255) (u8_wf (wfs_get h2 (z := b) (by simp)))
        rw [List.flatMap_cons, List.flatMap_cons, ih fun z hz => h z (by simp [hz])]; rfl
  have hb : ∀ i, i < zs.length → (weOf zs i).1 < 256 ∧ (weOf zs i).2 < 256 := fun i hi => by
    have hm := h _ (List.getElem_mem hi)
    have h1 := hm.1
    have h2 : wfs (List.replicate 2 .u8) zs[i] := hm
    have e : zs.getD i [] = zs[i] := by simp [hi]
    unfold weOf
    rw [e]
    generalize zs[i] = z at *
    match z, h1, h2 with
    | [a, b], _, h2 =>
      have := u8_wf (wfs_get h2 (z := a) (by simp))
      have := u8_wf (wfs_get h2 (z := b) (by simp))
      simp only [List.getD_cons_zero, List.getD_cons_succ]
      omega
  rw [e]
  intro i hi
  have hz : zs[i]? = some (zs.getD i []) := by simp [hi]
  refine ⟨⟨?_, ?_⟩, hb i hi⟩
  · have := flat_get (g := fun z : List Int => [uv (z.getD 0 0).toNat, uv (z.getD 1 0).toNat]) (k := 2) (fun _ => rfl) hz (j := 0) (by omega)
    rw [Nat.add_zero] at this
    rw [Nat.zero_add, this]; rfl
  · have := flat_get (g := fun z : List Int => [uv (z.getD 0 0).toNat, uv (z.getD 1 0).toNat]) (k := 2) (fun _ => rfl) hz (j := 1) (by omega)
    rw [Nat.zero_add, this]; rfl
/-- a weather as it is handed over -/
theorem open_weather (hv : Value.okWide Try.prog W .any b0 47 v) (hd : DataW.Trod enc Try.prog W base (fun _ => true) true 47 v d p) :
    ∃ (n : Nat) (cs : List Value) (g : Nat → Nat × Nat) (mb : Option MB), WeC cs 0 n g ∧ WinO W mb (.cells cs 2 true false) ∧ ∀ (m : Mp) b, m b = mb → VR m (sl b 0 n n) v := by
  obtain ⟨zs, mb, hw, hvr, hz, _⟩ := open_param_flat (ks := [.u8, .u8]) (d := 5) Try.underlying47 (by kernel_rfl) (by kernel_rfl) (by decide) hv hd
  exact ⟨zs.length, _, weOf zs, mb, we_flat hz, hw, hvr⟩
theorem open_u8 (hv : Value.okWide Try.prog W .any b0 5 v) (hd : DataW.Trod enc Try.prog W base (fun _ => true) true 5 v d p) : ∃ n : Nat, v = uv n ∧ n < 256 := by
  obtain ⟨y, rfl, _, _, h⟩ := open_int (show Try.prog.underlying 5 = some (.int .u8) from by kernel_rfl) hv hd
  obtain ⟨n, rfl, hn⟩ := nat_of (b := 255) (u8_wf h)
  exact ⟨n, rfl, hn⟩
end
end Go.Proofs.Ytfccmddkblbeoaa.rk
namespace Go.Proofs.Ytfccmddkblbeoaa.rk
open Go.GE
set_option linter.unusedVariables false
set_option linter.unusedSimpArgs false
set_option linter.unusedSectionVars false
set_option maxRecDepth 100000
set_option maxHeartbeats 4000000
attribute [local simp] runOps_nil runOps_cons runOpsF_nil runOpsF_cons fstS_some fstF_some opStep_eq want_none oStep_true oStep_false fin_pure fin_read fin_alloc fin_write storeB wrN cellV addWr o_move o_assign o_pick o_alloc o_box o_load o_store o_nilCheck o_bin o_un o_extract o_callV o_callB o_callI callV_f callV_y callV_fc o_makeFunc partsA Instr.fill builtin_len builtin_max2 bin_add bin_sub bin_mul bin_quo bin_rem bin_lss bin_leq bin_gtr bin_geq bin_eql bin_neq un_neg un_not bin_shr bin_shl wrap_u64_id opd opds optAll putO nbeq nblt constOk isC ops sub cl cr co bodyOf thenS_normal thenS_ret thenS_exit thenS_goto afterN_normal afterN_ret afterN_exit afterN_goto condS_true condS_false blockS_normal blockS_ret blockS_exit blockS_goto headS normS normK_eq fixS_nil fixS_cons fix1 fixV emptyB keepO_nil keepO_cons roundC_normal roundC_exit roundC_ret roundC_goto sweep_eq sweepD rnm pickR pickW rootsB ptrT renT ptrFn renFn ptrB_flat ptrB_non renB_flat renB_non plainS_some drawS_some fpsOk disj unord range' dropTo enumT undef wrap_i64_id Value.cells mkCells ptrTo scal cellsAt rdN endS_ret resultsA Option.bind_some tupV finish reachN dep ptrL_eq ptrL renL_eq renL ptrV_bool ptrV_int ptrV_string ptrV_nilFunc ptrV_nilIface ptrV_nilPtr ptrV_ptr ptrV_nilSl ptrV_sl ptrV_iface ptrV_agg ptrV_tuple ptrV_func renV_bool renV_int renV_string renV_nilFunc renV_nilIface renV_nilPtr renV_ptr renV_nilSl renV_sl renV_iface renV_agg renV_tuple renV_func gotoS_goto gotoS_normal gotoS_exit gotoS_ret skip_seq sliceE bnd bndHi intOf optOpd keepT_nil keepT_cons keepC_t keepC_f lk_nil lk_cons lkC_t lkC_f has_nil has_cons hasC_t hasC_f rep_nil rep_cons repC_t repC_f put_eq putC_t putC_f mem_nil mem_cons memC_t memC_f idx_nil idx_cons idxC_t idxC_f reach_nil reachP_cons reachQ_t reachQ_f ptrB_dead renB_dead ins_eq
attribute [local simp] n56_1s n56_3s n56_6s n56_10s n56_13s n56_14s n56_12s n56_18s n56_21s n56_23s n56_24s n56_22s n56_20s n56_26s n56_28s n56_29s n56_27s n56_25s n56_19s n56_17s n56_16s n56_30s n56_15s n56_11s n56_9s n56_8s n56_8g n56_7s n56_5s n56_32s n56_33s n56_31s n56_4s n56_2s n56_0s Try.f56 n17_1s n17_4s n17_6s n17_9s n17_10s n17_8s n17_11s n17_7s n17_5s n17_3s n17_13s n17_16s n17_20s n17_23s n17_24s n17_22s n17_28s n17_29s n17_27s n17_26s n17_30s n17_25s n17_21s n17_19s n17_18s n17_18g n17_17s n17_15s n17_32s n17_33s n17_31s n17_14s n17_12s n17_2s n17_0s Try.f17
/-- ranks of a day, k days still to be looked at -/
def rkA (l : Nat → Int × Int) (i : Nat) : Nat → Nat → Int → Int → Int × Int
  | 0, _, a, b => (a, b)
  | k + 1, j, a, b => rkA l i k (j + 1) (if quiet l j i = true then a + 1 else a) (if quiet l i j = true then b - 1 else b)
def rkS (l : Nat → Int × Int) (n i : Nat) : Int × Int := rkA l i n 0 1 n
def rkR (l : Nat → Int × Int) (n : Nat) : List (Int × Int) := (List.range n).map (rkS l n)
section
variable (off n c : Nat) {cs : List Value} {own : Bool} {l : Nat → Int × Int}
theorem l56 (hc : SpC cs off n l) (hn : n ≤ 30) (i : Nat) (hi : i < n) : ∀ (k j : Nat) (a b : Int), j + k = n → 0 ≤ a → a ≤ 1 + j → 0 ≤ b + j → b ≤ 30 →
    lpB Try.prog LL ⟨56, 33, 1, none⟩ n56_8 n56_9 ⟨[(0, sl 0 off n c), (1, iv i), (4, pp 1), (5, pp 2), (11, iv n), (12, iv j)], [.cells cs 2 true own, .cells [iv 0, iv 0] 1 true true, .cells [iv a, iv b] 1 true true], []⟩ =
      some (.exit 0, ⟨[(4, pp 1), (5, pp 2)], [.cells cs 2 true own, .cells [iv 0, iv 0] 1 true true, .cells [iv (rkA l i k j a b).1, iv (rkA l i k j a b).2] 1 true true], []⟩) := by
  intro k
  induction k with
  | zero =>
    intro j a b hj h1 h2 h3 h4
    obtain rfl : j = n := by omega
    rw [lpB_eq]
    simp (maxSteps := 1000000) (disch := first | omega | decide | assumption | simp [scal]) [za_55, lenA_sl lk_78, o_build za_55 pl_55, sz_55, o_fieldAddr fa_55_0 (by decide), loadA_eq ia_3, sz_3, o_fieldAddr fa_55_1 (by decide), loadA_eq ia_55, rkA]
  | succ k ih =>
    intro j a b hj h1 h2 h3 h4
    have e1 : j < n := by omega
    have e1' : (j : Int) < n := by omega
    have a1 := fun bx => k77 0 off n c (h := .cells cs 2 true own :: bx) rfl hc j i e1 hi
    have a2 := fun bx => k77 0 off n c (h := .cells cs 2 true own :: bx) rfl hc i j hi e1
    unfold rkA
    rw [lpB_eq]
    cases q1 : quiet l j i <;> cases q2 : quiet l i j <;> rw [q1] at a1 <;> rw [q2] at a2 <;> simp only [Bool.false_eq_true, if_false, if_true]
    · have this := ih (j + 1) a b (by omega) h1 (by omega) (by omega) h4
      simp only [cast1] at this
      simp (maxSteps := 1000000) (disch := first | omega | decide | assumption | simp [scal]) [za_55, lenA_sl lk_78, o_build za_55 pl_55, sz_55, o_fieldAddr fa_55_0 (by decide), loadA_eq ia_3, sz_3, o_fieldAddr fa_55_1 (by decide), loadA_eq ia_55, e1, e1', a1, a2, this]
    · have this := ih (j + 1) a (b - 1) (by omega) h1 (by omega) (by omega) (by omega)
      simp only [cast1] at this
      simp (maxSteps := 1000000) (disch := first | omega | decide | assumption | simp [scal]) [za_55, lenA_sl lk_78, o_build za_55 pl_55, sz_55, o_fieldAddr fa_55_0 (by decide), loadA_eq ia_3, sz_3, o_fieldAddr fa_55_1 (by decide), loadA_eq ia_55, e1, e1', a1, a2, this]
    · have this := ih (j + 1) (a + 1) b (by omega) (by omega) (by omega) (by omega) h4
      simp only [cast1] at this
      simp (maxSteps := 1000000) (disch := first | omega | decide | assumption | simp [scal]) [za_55, lenA_sl lk_78, o_build za_55 pl_55, sz_55, o_fieldAddr fa_55_0 (by decide), loadA_eq ia_3, sz_3, o_fieldAddr fa_55_1 (by decide), loadA_eq ia_55, e1, e1', a1, a2, this]
    · have this := ih (j + 1) (a + 1) (b - 1) (by omega) (by omega) (by omega) (by omega) (by omega)
      simp only [cast1] at this
      simp (maxSteps := 1000000) (disch := first | omega | decide | assumption | simp [scal]) [za_55, lenA_sl lk_78, o_build za_55 pl_55, sz_55, o_fieldAddr fa_55_0 (by decide), loadA_eq ia_3, sz_3, o_fieldAddr fa_55_1 (by decide), loadA_eq ia_55, e1, e1', a1, a2, this]
end
section
variable (b off n c : Nat) {cs : List Value} {own : Bool} {l : Nat → Int × Int} {h : List Blk} (hb : h[b]? = some (.cells cs 2 true own)) (hc : SpC cs off n l)
include hb hc
theorem k56 (hn : n ≤ 30) (i : Nat) (hi : i < n) : callH LL 56 [sl b off n c, iv i] h = some ⟨.agg #[iv (rkS l n i).1, iv (rkS l n i).2], h, [b], []⟩ := by
  refine callH_1 rfl hb noIdB_flat (args' := [sl 0 off n c, iv i]) (by simp [renV, dep, optAll, idx, nbeq]) (go (by decide) ?_) fun _ => rfl
  have this := l56 off n c (own := own) hc hn i hi n 0 1 n (by omega) (by omega) (by omega) (by omega) (by omega)
  simp only [Int.natCast_zero] at this
  unfold rkS
  generalize rkA l i n 0 1 n = z at *
  obtain ⟨z1, z2⟩ := z
  rw [run56 _ _ _ (by simp)]
  simp (maxSteps := 1000000) (disch := first | omega | decide | assumption | simp [scal]) [za_55, lenA_sl lk_78, o_build za_55 pl_55, sz_55, o_fieldAddr fa_55_0 (by decide), loadA_eq ia_3, sz_3, o_fieldAddr fa_55_1 (by decide), loadA_eq ia_55, this]
end
theorem chk_ok {l : Nat → Int × Int} {n : Nat} (h : chkS l n = 0) : 0 < n ∧ n ≤ 30 := by
  unfold chkS at h
  by_cases h0 : n = 0
  · rw [if_pos h0] at h; omega
  · rw [if_neg h0] at h
    by_cases h2 : 30 < n
    · rw [if_pos h2] at h; omega
    · omega
section
variable (off n c : Nat) {cs : List Value} {own : Bool} {l : Nat → Int × Int}
theorem l17 (hc : SpC cs off n l) (hn : n ≤ 30) : ∀ (k i : Nat), i + k = n →
    lpB Try.prog LL ⟨17, 25, 1, none⟩ n17_18 n17_19 ⟨[(0, sl 0 off n c), (5, sl 1 0 i i), (13, iv n), (14, iv i)], [.cells cs 2 true own, spB ((List.range i).map (rkS l n))], []⟩ =
      some (.exit 0, ⟨[(5, sl 1 0 n n)], [.cells cs 2 true own, spB (rkR l n)], []⟩) := by
  intro k
  induction k with
  | zero =>
    intro i hi
    obtain rfl : i = n := by omega
    simp only [spB, rkR]
    generalize ((List.range i).map (rkS l i)).flatMap spG = F
    rw [lpB_eq]
    simp (maxSteps := 1000000) (disch := first | omega | decide | assumption | simp [scal]) [lenA_sl lk_22, o_indexAddrS es_22, ze_22, o_buildSlice es_22 ze_22 (by decide) ba_22_1, ap_22, builtin_append ni_22]
  | succ k ih =>
    intro i hi
    have e1 : (i : Int) < n := by omega
    have a1 := fun bx => k56 0 off n c (h := .cells cs 2 true own :: bx) rfl hc hn i (by omega)
    have this := ih (i + 1) (by omega)
    have c1 := fun hp b c rd => app_list (h := hp) (b := b) (c := c) (k := 2) (by' := 16) (l := i) (cs := ((List.range i).map (rkS l n)).flatMap spG) (new := spG (rkS l n i)) (rd := rd) (by rw [flat_len (k := 2) (fun _ => rfl)]; simp) (by omega) (by omega) rfl
    simp only [spB] at this ⊢
    rw [List.range_succ, List.map_append, List.map_cons, List.map_nil, List.flatMap_append, List.flatMap_cons, List.flatMap_nil, List.append_nil] at this
    generalize (rkR l n).flatMap spG = F at *
    generalize ((List.range i).map (rkS l n)).flatMap spG = G at *
    simp only [spG] at this c1
    generalize rkS l n i = z at *
    obtain ⟨z1, z2⟩ := z
    simp only [cast1] at this
    simp only [] at c1
    rw [lpB_eq]
    simp (maxSteps := 1000000) (disch := first | omega | decide | assumption | simp [scal]) [lenA_sl lk_22, o_indexAddrS es_22, ze_22, o_buildSlice es_22 ze_22 (by decide) ba_22_1, ap_22, builtin_append ni_22, e1, a1, append_some ap_22, srcCells, c1, this]
end
def rksR (l : Nat → Int × Int) (n : Nat) : List (Int × Int) := if chkS l n = 0 then rkR l n else []
section
variable (b off n c : Nat) {cs : List Value} {own : Bool} {l : Nat → Int × Int} {h : List Blk} (hb : h[b]? = some (.cells cs 2 true own)) (hc : SpC cs off n l)
include hb hc
theorem k17 (hn : n ≤ 60) : callH LL 17 [sl b off n c] h = some ⟨.tuple #[sl h.length 0 (rksR l n).length (rksR l n).length, iv (chkS l n)], h ++ [spB (rksR l n)], [b], []⟩ := by
  refine callN_1 rfl hb noIdB_flat (args' := [sl 0 off n c]) (by simp [renV, dep, optAll, idx, nbeq]) (v := .tuple #[sl 1 0 (rksR l n).length (rksR l n).length, iv (chkS l n)]) (news := [spB (rksR l n)]) (go (by decide) ?_) (by intro blk hb; simp only [List.mem_singleton] at hb; subst hb; exact noIdB_flat) (by simp [renV, dep, optAll])
  have a := fun bx => k45 0 off n c (h := .cells cs 2 true own :: bx) rfl hc hn
  rw [run17 _ _ _ (by simp)]
  unfold rksR
  by_cases h1 : chkS l n = 0
  · obtain ⟨n1, n2⟩ := chk_ok h1
    rw [if_pos h1, h1]
    rw [h1] at a
    have this := l17 off n c (own := own) hc n2 n 0 (by omega)
    have hl : (rkR l n).length = n := by simp [rkR]
    rw [hl]
    simp only [spB, List.range_zero, List.map_nil, List.flatMap_nil, Int.natCast_zero] at this ⊢
    generalize (rkR l n).flatMap spG = F at *
    simp (maxSteps := 1000000) (disch := first | omega | decide | assumption | simp [scal]) [lenA_sl lk_22, o_indexAddrS es_22, ze_22, o_buildSlice es_22 ze_22 (by decide) ba_22_1, ap_22, builtin_append ni_22, a, this]
  · rw [if_neg h1]
    simp only [spB, List.flatMap_nil, List.length_nil]
    simp (maxSteps := 1000000) (disch := first | omega | decide | assumption | simp [scal]) [lenA_sl lk_22, o_indexAddrS es_22, ze_22, o_buildSlice es_22 ze_22 (by decide) ba_22_1, ap_22, builtin_append ni_22, a, h1]
end
end Go.Proofs.Ytfccmddkblbeoaa.rk
namespace Go.Proofs.Ytfccmddkblbeoaa.rk
open Go.GE
set_option linter.unusedVariables false
set_option linter.unusedSimpArgs false
set_option linter.unusedSectionVars false
set_option maxRecDepth 100000
set_option maxHeartbeats 4000000
attribute [local simp] runOps_nil runOps_cons runOpsF_nil runOpsF_cons fstS_some fstF_some opStep_eq want_none oStep_true oStep_false fin_pure fin_read fin_alloc fin_write storeB wrN cellV addWr o_move o_assign o_pick o_alloc o_box o_load o_store o_nilCheck o_bin o_un o_extract o_callV o_callB o_callI callV_f callV_y callV_fc o_makeFunc partsA Instr.fill builtin_len builtin_max2 bin_add bin_sub bin_mul bin_quo bin_rem bin_lss bin_leq bin_gtr bin_geq bin_eql bin_neq un_neg un_not bin_shr bin_shl wrap_u64_id opd opds optAll putO nbeq nblt constOk isC ops sub cl cr co bodyOf thenS_normal thenS_ret thenS_exit thenS_goto afterN_normal afterN_ret afterN_exit afterN_goto condS_true condS_false blockS_normal blockS_ret blockS_exit blockS_goto headS normS normK_eq fixS_nil fixS_cons fix1 fixV emptyB keepO_nil keepO_cons roundC_normal roundC_exit roundC_ret roundC_goto sweep_eq sweepD rnm pickR pickW rootsB ptrT renT ptrFn renFn ptrB_flat ptrB_non renB_flat renB_non plainS_some drawS_some fpsOk disj unord range' dropTo enumT undef wrap_i64_id Value.cells mkCells ptrTo scal cellsAt rdN endS_ret resultsA Option.bind_some tupV finish reachN dep ptrL_eq ptrL renL_eq renL ptrV_bool ptrV_int ptrV_string ptrV_nilFunc ptrV_nilIface ptrV_nilPtr ptrV_ptr ptrV_nilSl ptrV_sl ptrV_iface ptrV_agg ptrV_tuple ptrV_func renV_bool renV_int renV_string renV_nilFunc renV_nilIface renV_nilPtr renV_ptr renV_nilSl renV_sl renV_iface renV_agg renV_tuple renV_func gotoS_goto gotoS_normal gotoS_exit gotoS_ret skip_seq sliceE bnd bndHi intOf optOpd keepT_nil keepT_cons keepC_t keepC_f lk_nil lk_cons lkC_t lkC_f has_nil has_cons hasC_t hasC_f rep_nil rep_cons repC_t repC_f put_eq putC_t putC_f mem_nil mem_cons memC_t memC_f idx_nil idx_cons idxC_t idxC_f reach_nil reachP_cons reachQ_t reachQ_f ptrB_dead renB_dead ins_eq
attribute [local simp] n19_1s n19_3s n19_7s n19_10s n19_11s n19_9s n19_13s n19_16s n19_17s n19_15s n19_18s n19_14s n19_12s n19_8s n19_6s n19_5s n19_21s n19_25s n19_28s n19_29s n19_27s n19_33s n19_36s n19_38s n19_39s n19_37s n19_35s n19_41s n19_43s n19_44s n19_42s n19_40s n19_34s n19_32s n19_31s n19_45s n19_30s n19_26s n19_24s n19_23s n19_23g n19_22s n19_20s n19_47s n19_48s n19_46s n19_19s n19_4s n19_2s n19_0s Try.f19
/-- the days that can be, and that surely are, among the K quietest -/
def canF (r : Nat → Int × Int) (K : Int) (i : Nat) : List Nat := (List.range i).filter fun j => decide ((r j).1 ≤ K)
def sureF (r : Nat → Int × Int) (K : Int) (i : Nat) : List Nat := (List.range i).filter fun j => decide ((r j).2 ≤ K)
theorem filt_len {p : Nat → Bool} {i : Nat} : ((List.range i).filter p).length ≤ i := by
  have := List.length_filter_le p (List.range i)
  simpa using this
theorem filt_succ {p : Nat → Bool} {i : Nat} : (List.range (i + 1)).filter p = if p i = true then (List.range i).filter p ++ [i] else (List.range i).filter p := by
  rw [List.range_succ, List.filter_append, List.filter_cons]
  by_cases h : p i = true <;> simp [h]
theorem rkR_at {l : Nat → Int × Int} {n i : Nat} (h : i < n) : spAt (rkR l n) i = rkS l n i := by simp [spAt, rkR, h]
theorem rkR_len {l : Nat → Int × Int} {n : Nat} : (rkR l n).length = n := by simp [rkR]
section
variable (K0 : Blk) (l : Nat → Int × Int) (n : Nat) (K : Int)
theorem l19 (hn : n ≤ 30) : ∀ (k i : Nat), i + k = n →
    lpB Try.prog LL ⟨19, 51, 1, none⟩ n19_23 n19_24 ⟨[(1, iv K), (4, sl 1 0 (canF (rkS l n) K i).length (canF (rkS l n) K i).length), (5, sl 2 0 (sureF (rkS l n) K i).length (sureF (rkS l n) K i).length), (25, sl 3 0 n n), (26, iv n), (27, iv i)], [K0, nB (canF (rkS l n) K i), nB (sureF (rkS l n) K i), spB (rkR l n)], []⟩ =
      some (.exit 1, ⟨[(4, sl 1 0 (canF (rkS l n) K n).length (canF (rkS l n) K n).length), (5, sl 2 0 (sureF (rkS l n) K n).length (sureF (rkS l n) K n).length)], [K0, nB (canF (rkS l n) K n), nB (sureF (rkS l n) K n)], []⟩) := by
  intro k
  induction k with
  | zero =>
    intro i hi
    obtain rfl : i = n := by omega
    simp only [spB, nB]
    generalize (rkR l i).flatMap spG = F
    generalize canF (rkS l i) K i = C
    generalize sureF (rkS l i) K i = D
    generalize nm C = C1
    generalize nm D = D1
    rw [lpB_eq]
    simp (maxSteps := 1000000) (disch := first | omega | decide | assumption | simp [scal]) [lenA_sl lk_22, o_indexAddrS es_22, loadA_eq ia_55, za_55, sz_55, o_fieldAddr fa_55_0 (by decide), loadA_eq ia_3, o_indexAddrS es_24, ze_24, o_buildSlice es_24 ze_24 (by decide) ba_24_1, ap_24, builtin_append ni_24, o_fieldAddr fa_55_1 (by decide)]
  | succ k ih =>
    intro i hi
    have e0 : i < n := by omega
    have e1 : (i : Int) < n := by omega
    have this := ih (i + 1) (by omega)
    obtain ⟨p1, p2⟩ := spAt_C (rkR l n) i (by rw [rkR_len]; exact e0)
    rw [rkR_at e0, Nat.zero_add] at p1 p2
    have hc1 : canF (rkS l n) K (i + 1) = if decide ((rkS l n i).1 ≤ K) = true then canF (rkS l n) K i ++ [i] else canF (rkS l n) K i := filt_succ
    have hd1 : sureF (rkS l n) K (i + 1) = if decide ((rkS l n i).2 ≤ K) = true then sureF (rkS l n) K i ++ [i] else sureF (rkS l n) K i := filt_succ
    have lc : (canF (rkS l n) K i).length ≤ i := filt_len
    have ld : (sureF (rkS l n) K i).length ≤ i := filt_len
    rw [hc1, hd1] at this
    clear hc1 hd1 ih
    simp only [spB, nB] at this ⊢
    generalize canF (rkS l n) K n = C2 at *
    generalize sureF (rkS l n) K n = D2 at *
    generalize canF (rkS l n) K i = C at *
    generalize sureF (rkS l n) K i = D at *
    generalize (rkR l n).flatMap spG = F at *
    generalize rkS l n i = z at *
    obtain ⟨z1, z2⟩ := z
    have c1 := fun hp b c rd => app_list (h := hp) (b := b) (c := c) (k := 1) (by' := 8) (l := C.length) (cs := nm C) (new := [iv i]) (rd := rd) (by rw [nm_len]; simp) (by omega) (by omega) rfl
    have c2 := fun hp b c rd => app_list (h := hp) (b := b) (c := c) (k := 1) (by' := 8) (l := D.length) (cs := nm D) (new := [iv i]) (rd := rd) (by rw [nm_len]; simp) (by omega) (by omega) rfl
    have lz : ∀ (x : Nat) (O : List Nat), (O ++ [x]).length = O.length + 1 := fun x O => by simp
    simp only [cast1] at this
    simp only [] at p1 p2
    rw [lpB_eq]
    by_cases h1 : z1 ≤ K <;> by_cases h2 : z2 ≤ K <;> simp only [h1, h2, decide_true, decide_false, Bool.false_eq_true, if_true, if_false, lz, nm_app, nm_one] at this
    · generalize nm C2 = C3 at *
      generalize nm D2 = D3 at *
      generalize nm C = C1 at *
      generalize nm D = D1 at *
      simp (maxSteps := 1000000) (disch := first | omega | decide | assumption | simp [scal]) [lenA_sl lk_22, o_indexAddrS es_22, loadA_eq ia_55, za_55, sz_55, o_fieldAddr fa_55_0 (by decide), loadA_eq ia_3, o_indexAddrS es_24, ze_24, o_buildSlice es_24 ze_24 (by decide) ba_24_1, ap_24, builtin_append ni_24, o_fieldAddr fa_55_1 (by decide), e0, e1, p1, p2, h1, h2, append_some ap_24, srcCells, c1, c2, this]
    · generalize nm C2 = C3 at *
      generalize nm D2 = D3 at *
      generalize nm C = C1 at *
      generalize nm D = D1 at *
      simp (maxSteps := 1000000) (disch := first | omega | decide | assumption | simp [scal]) [lenA_sl lk_22, o_indexAddrS es_22, loadA_eq ia_55, za_55, sz_55, o_fieldAddr fa_55_0 (by decide), loadA_eq ia_3, o_indexAddrS es_24, ze_24, o_buildSlice es_24 ze_24 (by decide) ba_24_1, ap_24, builtin_append ni_24, o_fieldAddr fa_55_1 (by decide), e0, e1, p1, p2, h1, h2, append_some ap_24, srcCells, c1, c2, this]
    · generalize nm C2 = C3 at *
      generalize nm D2 = D3 at *
      generalize nm C = C1 at *
      generalize nm D = D1 at *
      simp (maxSteps := 1000000) (disch := first | omega | decide | assumption | simp [scal]) [lenA_sl lk_22, o_indexAddrS es_22, loadA_eq ia_55, za_55, sz_55, o_fieldAddr fa_55_0 (by decide), loadA_eq ia_3, o_indexAddrS es_24, ze_24, o_buildSlice es_24 ze_24 (by decide) ba_24_1, ap_24, builtin_append ni_24, o_fieldAddr fa_55_1 (by decide), e0, e1, p1, p2, h1, h2, append_some ap_24, srcCells, c1, c2, this]
    · generalize nm C2 = C3 at *
      generalize nm D2 = D3 at *
      generalize nm C = C1 at *
      generalize nm D = D1 at *
      simp (maxSteps := 1000000) (disch := first | omega | decide | assumption | simp [scal]) [lenA_sl lk_22, o_indexAddrS es_22, loadA_eq ia_55, za_55, sz_55, o_fieldAddr fa_55_0 (by decide), loadA_eq ia_3, o_indexAddrS es_24, ze_24, o_buildSlice es_24 ze_24 (by decide) ba_24_1, ap_24, builtin_append ni_24, o_fieldAddr fa_55_1 (by decide), e0, e1, p1, p2, h1, h2, append_some ap_24, srcCells, c1, c2, this]
end
def qstC (l : Nat → Int × Int) (n : Nat) (K : Int) : List Nat := if chkS l n = 0 ∧ (decide (1 ≤ K) && decide (K ≤ (n : Int))) = true then canF (rkS l n) K n else []
def qstD (l : Nat → Int × Int) (n : Nat) (K : Int) : List Nat := if chkS l n = 0 ∧ (decide (1 ≤ K) && decide (K ≤ (n : Int))) = true then sureF (rkS l n) K n else []
def qstE (l : Nat → Int × Int) (n : Nat) (K : Int) : Int := if chkS l n ≠ 0 then chkS l n else if (decide (1 ≤ K) && decide (K ≤ (n : Int))) = true then 0 else 1
section
variable (b off n c : Nat) (K : Int) {cs : List Value} {own : Bool} {l : Nat → Int × Int} {h : List Blk} (hb : h[b]? = some (.cells cs 2 true own)) (hc : SpC cs off n l)
include hb hc
theorem k19 (hn : n ≤ 60) : callH LL 19 [sl b off n c, iv K] h = some ⟨.tuple #[sl h.length 0 (qstC l n K).length (qstC l n K).length, sl (h.length + 1) 0 (qstD l n K).length (qstD l n K).length, iv (qstE l n K)], h ++ [nB (qstC l n K), nB (qstD l n K)], [b], []⟩ := by
  refine callN_1 rfl hb noIdB_flat (args' := [sl 0 off n c, iv K]) (by simp [renV, dep, optAll, idx, nbeq]) (v := .tuple #[sl 1 0 (qstC l n K).length (qstC l n K).length, sl 2 0 (qstD l n K).length (qstD l n K).length, iv (qstE l n K)]) (news := [nB (qstC l n K), nB (qstD l n K)]) (go (by decide) ?_) (by intro blk hb; simp only [List.mem_cons, List.not_mem_nil, or_false] at hb; rcases hb with rfl | rfl <;> exact noIdB_flat) (by simp [renV, dep, optAll])
  have a := k17 0 off n c (h := [.cells cs 2 true own]) rfl hc hn
  unfold rksR at a
  rw [run19 _ _ _ (by simp)]
  unfold qstC qstD qstE
  by_cases h1 : chkS l n = 0
  · obtain ⟨n1, n2⟩ := chk_ok h1
    rw [if_pos h1, h1, rkR_len] at a
    cases h2 : (decide (1 ≤ K) && decide (K ≤ (n : Int)))
    · simp only [h1, Bool.false_eq_true, and_false, if_false, nB, nm_nil, List.length_nil, ne_eq, not_true]
      simp only [spB] at a
      generalize (rkR l n).flatMap spG = F at *
      simp (maxSteps := 1000000) (disch := first | omega | decide | assumption | simp [scal]) [lenA_sl lk_22, o_indexAddrS es_22, loadA_eq ia_55, za_55, sz_55, o_fieldAddr fa_55_0 (by decide), loadA_eq ia_3, o_indexAddrS es_24, ze_24, o_buildSlice es_24 ze_24 (by decide) ba_24_1, ap_24, builtin_append ni_24, o_fieldAddr fa_55_1 (by decide), a, k57, h2]
    · have this := l19 (.cells cs 2 true own) l n K n2 n 0 (by omega)
      have f0 : canF (rkS l n) K 0 = [] := rfl
      have f1 : sureF (rkS l n) K 0 = [] := rfl
      simp only [f0, f1, List.length_nil, Int.natCast_zero] at this
      simp only [h1, h2, and_self, if_true, ne_eq, not_true, if_false]
      simp only [spB, nB, nm_nil] at a this ⊢
      generalize (rkR l n).flatMap spG = F at *
      generalize canF (rkS l n) K n = C at *
      generalize sureF (rkS l n) K n = D at *
      generalize nm C = C1 at *
      generalize nm D = D1 at *
      simp (maxSteps := 1000000) (disch := first | omega | decide | assumption | simp [scal]) [lenA_sl lk_22, o_indexAddrS es_22, loadA_eq ia_55, za_55, sz_55, o_fieldAddr fa_55_0 (by decide), loadA_eq ia_3, o_indexAddrS es_24, ze_24, o_buildSlice es_24 ze_24 (by decide) ba_24_1, ap_24, builtin_append ni_24, o_fieldAddr fa_55_1 (by decide), a, k57, h2, this]
  · rw [if_neg h1] at a
    simp only [h1, false_and, if_false, nB, nm_nil, List.length_nil, ne_eq, not_false_eq_true, if_true]
    simp only [spB, List.flatMap_nil, List.length_nil] at a
    simp (maxSteps := 1000000) (disch := first | omega | decide | assumption | simp [scal]) [lenA_sl lk_22, o_indexAddrS es_22, loadA_eq ia_55, za_55, sz_55, o_fieldAddr fa_55_0 (by decide), loadA_eq ia_3, o_indexAddrS es_24, ze_24, o_buildSlice es_24 ze_24 (by decide) ba_24_1, ap_24, builtin_append ni_24, o_fieldAddr fa_55_1 (by decide), a, h1]
end
end Go.Proofs.Ytfccmddkblbeoaa.rk
namespace Go.Proofs.Ytfccmddkblbeoaa.rk
open Go.GE
set_option linter.unusedVariables false
set_option linter.unusedSimpArgs false
set_option linter.unusedSectionVars false
set_option maxRecDepth 100000
set_option maxHeartbeats 4000000
theorem rkA_cnt {l : Nat → Int × Int} {i : Nat} : ∀ (k j : Nat) (a b : Int), rkA l i k j a b = (a + ((List.range' j k).countP fun x => quiet l x i : Nat), b - ((List.range' j k).countP fun x => quiet l i x : Nat)) := by
  intro k
  induction k with
  | zero => intro j a b; simp [rkA]
  | succ k ih =>
    intro j a b
    unfold rkA
    rw [ih, List.range'_succ, List.countP_cons, List.countP_cons]
    refine Prod.ext ?_ ?_
    · cases quiet l j i <;> simp <;> omega
    · cases quiet l i j <;> simp <;> omega
theorem rkS_cnt {l : Nat → Int × Int} {n i : Nat} : rkS l n i = ((1 : Int) + (((List.range n).countP fun x => quiet l x i : Nat) : Int), (n : Int) - (((List.range n).countP fun x => quiet l i x : Nat) : Int)) := by
  unfold rkS
  rw [rkA_cnt, List.range_eq_range']
theorem cnt_take {p : Nat → Bool} {O : List Nat} {k : Nat} (h : ∀ q, k ≤ q → q < O.length → p (O.getD q 0) = false) : O.countP p ≤ k := by
  have e : O.countP p = (O.take k).countP p + (O.drop k).countP p := by rw [← List.countP_append, List.take_append_drop]
  have h1 : (O.take k).countP p ≤ (O.take k).length := List.countP_le_length
  have h2 : (O.drop k).countP p = 0 := List.countP_eq_zero.2 fun a ha => by
    obtain ⟨i, hi, rfl⟩ := List.getElem_of_mem ha
    rw [List.length_drop] at hi
    rw [List.getElem_drop]
    have := h (k + i) (by omega) (by omega)
    have e : O.getD (k + i) 0 = O[k + i]'(by omega) := by simp [show k + i < O.length by omega]
    rw [e] at this
    simp [this]
  have h3 : (O.take k).length ≤ k := by rw [List.length_take]; omega
  omega
theorem cnt_drop {p : Nat → Bool} {O : List Nat} {k : Nat} (h : ∀ q, q < k → q < O.length → p (O.getD q 0) = false) : O.countP p ≤ O.length - k := by
  have e : O.countP p = (O.take k).countP p + (O.drop k).countP p := by rw [← List.countP_append, List.take_append_drop]
  have h1 : (O.drop k).countP p ≤ (O.drop k).length := List.countP_le_length
  have h2 : (O.take k).countP p = 0 := List.countP_eq_zero.2 fun a ha => by
    obtain ⟨i, hi, rfl⟩ := List.getElem_of_mem ha
    rw [List.length_take] at hi
    rw [List.getElem_take]
    have := h i (by omega) (by omega)
    have e : O.getD i 0 = O[i]'(by omega) := by simp [show i < O.length by omega]
    rw [e] at this
    simp [this]
  have h3 : (O.drop k).length = O.length - k := List.length_drop
  omega
/-- of an order along which no day is surely quieter than one before it: positions lie within ranks -/
theorem rk_pos {A : List (Int × Int)} {O : List Nat} {n : Nat} (S : MO A O n) (hq : ∀ i j, i < j → j < n → qt A O j i = false) {p : Nat} (hp : p < n) : (rkS (spAt A) n (O.getD p 0)).1 ≤ (p : Int) + 1 ∧ (p : Int) + 1 ≤ (rkS (spAt A) n (O.getD p 0)).2 := by
  have hself : quiet (spAt A) (O.getD p 0) (O.getD p 0) = false := by
    have := S.ha.at (i := O.getD p 0) (by rw [S.la]; exact S.lt hp)
    unfold quiet
    simp only [decide_eq_false_iff_not]
    omega
  rw [rkS_cnt]
  have h1 := S.hp.countP_eq fun x => quiet (spAt A) x (O.getD p 0)
  have h2 := S.hp.countP_eq fun x => quiet (spAt A) (O.getD p 0) x
  rw [← h1, ← h2]
  have c1 : (O.countP fun x => quiet (spAt A) x (O.getD p 0)) ≤ p := cnt_take fun q hq1 hq2 => by
    rw [S.lo] at hq2
    by_cases e : p = q
    · subst e; exact hself
    · exact hq p q (by omega) hq2
  have c2 : (O.countP fun x => quiet (spAt A) (O.getD p 0) x) ≤ O.length - (p + 1) := cnt_drop fun q hq1 hq2 => by
    by_cases e : q = p
    · subst e; exact hself
    · exact hq q p (by omega) hp
  rw [S.lo] at c2
  simp only []
  omega
theorem pos_eq {A : List (Int × Int)} {O : List Nat} {n : Nat} (S : MO A O n) (hq : ∀ i j, i < j → j < n → qt A O j i = false) : posS (spAt A) n (ntAt O) n = 0 := by
  unfold posS
  rw [ord_eq S, if_neg (by decide)]
  rcases flt_eq S with ⟨h1, _⟩ | ⟨r, s, _, _, h3, h4, h5, _⟩
  · rw [h1]; rfl
  · rw [hq r s h3 h4] at h5; exact absurd h5 (by decide)
end Go.Proofs.Ytfccmddkblbeoaa.rk
namespace Go.Proofs.Ytfccmddkblbeoaa.rk
open Go.GE
set_option linter.unusedVariables false
set_option linter.unusedSimpArgs false
set_option linter.unusedSectionVars false
set_option maxRecDepth 100000
set_option maxHeartbeats 4000000
attribute [local simp] runOps_nil runOps_cons runOpsF_nil runOpsF_cons fstS_some fstF_some opStep_eq want_none oStep_true oStep_false fin_pure fin_read fin_alloc fin_write storeB wrN cellV addWr o_move o_assign o_pick o_alloc o_box o_load o_store o_nilCheck o_bin o_un o_extract o_callV o_callB o_callI callV_f callV_y callV_fc o_makeFunc partsA Instr.fill builtin_len builtin_max2 bin_add bin_sub bin_mul bin_quo bin_rem bin_lss bin_leq bin_gtr bin_geq bin_eql bin_neq un_neg un_not bin_shr bin_shl wrap_u64_id opd opds optAll putO nbeq nblt constOk isC ops sub cl cr co bodyOf thenS_normal thenS_ret thenS_exit thenS_goto afterN_normal afterN_ret afterN_exit afterN_goto condS_true condS_false blockS_normal blockS_ret blockS_exit blockS_goto headS normS normK_eq fixS_nil fixS_cons fix1 fixV emptyB keepO_nil keepO_cons roundC_normal roundC_exit roundC_ret roundC_goto sweep_eq sweepD rnm pickR pickW rootsB ptrT renT ptrFn renFn ptrB_flat ptrB_non renB_flat renB_non plainS_some drawS_some fpsOk disj unord range' dropTo enumT undef wrap_i64_id Value.cells mkCells ptrTo scal cellsAt rdN endS_ret resultsA Option.bind_some tupV finish reachN dep ptrL_eq ptrL renL_eq renL ptrV_bool ptrV_int ptrV_string ptrV_nilFunc ptrV_nilIface ptrV_nilPtr ptrV_ptr ptrV_nilSl ptrV_sl ptrV_iface ptrV_agg ptrV_tuple ptrV_func renV_bool renV_int renV_string renV_nilFunc renV_nilIface renV_nilPtr renV_ptr renV_nilSl renV_sl renV_iface renV_agg renV_tuple renV_func gotoS_goto gotoS_normal gotoS_exit gotoS_ret skip_seq sliceE bnd bndHi intOf optOpd keepT_nil keepT_cons keepC_t keepC_f lk_nil lk_cons lkC_t lkC_f has_nil has_cons hasC_t hasC_f rep_nil rep_cons repC_t repC_f put_eq putC_t putC_f mem_nil mem_cons memC_t memC_f idx_nil idx_cons idxC_t idxC_f reach_nil reachP_cons reachQ_t reachQ_f ptrB_dead renB_dead ins_eq
attribute [local simp] n21_1s n21_4s n21_7s n21_8s n21_6s n21_9s n21_5s n21_3s n21_12s n21_17s n21_19s n21_20s n21_18s n21_16s n21_24s n21_27s n21_28s n21_26s n21_29s n21_25s n21_23s n21_22s n21_30s n21_21s n21_15s n21_14s n21_14g n21_13s n21_11s n21_32s n21_33s n21_31s n21_10s n21_2s n21_0s Try.f21
theorem g55 : Try.prog.eqGuardType Try.prog.depth 55 = false := by kernel_rfl
theorem s55 : Try.prog.stoodInHeld 55 = false := by kernel_rfl
theorem part3 (cs : Array Value) (o : Nat) : partA Try.prog 3 cs o = cs[o]? := by
  have e3 : Try.prog.underlying 3 = some (.int .i64) := by kernel_rfl
  unfold partA
  rw [e3]
  cases h : Try.prog.info? 3 with
  | none => have : (Try.prog.info? 3).isSome = true := by kernel_rfl
            rw [h] at this; cases this
  | some i => rfl
theorem neq55 {cst : Bool} (a b : Int) : binA Try.prog .neq 55 cst (.agg #[iv a, iv b]) (.agg #[iv a, iv b]) = some (.bool false) := by
  have e3 : Try.prog.underlying 3 = some (.int .i64) := by kernel_rfl
  simp [binA, g55, eqA, Try.underlying55, s55, eqFs, part3, e3]
section
variable (L : List Nat)
theorem l21 (hL : L.length ≤ 60) : ∀ (k i : Nat), i + k = L.length →
    lpB Try.prog LL ⟨21, 26, 2, none⟩ n21_14 n21_15 ⟨[(0, sl 0 0 L.length L.length), (1, sl 1 0 L.length L.length), (5, iv i)], [nB L, nB L], []⟩ =
      some (.exit 0, ⟨[], [nB L, nB L], []⟩) := by
  intro k
  induction k with
  | zero =>
    intro i hi
    obtain rfl : i = L.length := by omega
    simp only [nB]
    generalize nm L = M
    rw [lpB_eq]
    simp (maxSteps := 1000000) (disch := first | omega | decide | assumption | simp [scal]) [lenA_sl lk_24, o_indexAddrS es_24, loadA_eq ia_3]
  | succ k ih =>
    intro i hi
    have e0 : i < L.length := by omega
    have e1 : (i : Int) < L.length := by omega
    have this := ih (i + 1) (by omega)
    have p1 := nm_get e0
    simp only [nB] at this ⊢
    simp only [cast1] at this
    generalize L.getD i 0 = x at *
    generalize nm L = M at *
    rw [lpB_eq]
    simp (maxSteps := 1000000) (disch := first | omega | decide | assumption | simp [scal]) [lenA_sl lk_24, o_indexAddrS es_24, loadA_eq ia_3, e0, e1, p1, this]
theorem k21 (b b2 : Nat) {h : List Blk} (hb : h[b]? = some (nB L)) (hb2 : h[b2]? = some (nB L)) (hne : b ≠ b2) (hL : L.length ≤ 60) : callH LL 21 [sl b 0 L.length L.length, sl b2 0 L.length L.length] h = some ⟨.bool true, h, [b, b2], []⟩ := by
  refine callH_2 rfl hb hb2 hne noIdB_flat noIdB_flat (so_ren hne rfl) (go (by decide) ?_) fun _ => rfl
  have this := l21 L hL L.length 0 (by omega)
  simp only [nB, Int.natCast_zero] at this ⊢
  generalize nm L = M at *
  rw [run21 _ _ _ (by simp)]
  simp (maxSteps := 1000000) (disch := first | omega | decide | assumption | simp [scal]) [lenA_sl lk_24, o_indexAddrS es_24, loadA_eq ia_3, this]
end
end Go.Proofs.Ytfccmddkblbeoaa.rk
namespace Go.Proofs.Ytfccmddkblbeoaa.rk
open Go.GE
set_option linter.unusedVariables false
set_option linter.unusedSimpArgs false
set_option linter.unusedSectionVars false
set_option maxRecDepth 100000
set_option maxHeartbeats 4000000
attribute [local simp] runOps_nil runOps_cons runOpsF_nil runOpsF_cons fstS_some fstF_some opStep_eq want_none oStep_true oStep_false fin_pure fin_read fin_alloc fin_write storeB wrN cellV addWr o_move o_assign o_pick o_alloc o_box o_load o_store o_nilCheck o_bin o_un o_extract o_callV o_callB o_callI callV_f callV_y callV_fc o_makeFunc partsA Instr.fill builtin_len builtin_max2 bin_add bin_sub bin_mul bin_quo bin_rem bin_lss bin_leq bin_gtr bin_geq bin_eql bin_neq un_neg un_not bin_shr bin_shl wrap_u64_id opd opds optAll putO nbeq nblt constOk isC ops sub cl cr co bodyOf thenS_normal thenS_ret thenS_exit thenS_goto afterN_normal afterN_ret afterN_exit afterN_goto condS_true condS_false blockS_normal blockS_ret blockS_exit blockS_goto headS normS normK_eq fixS_nil fixS_cons fix1 fixV emptyB keepO_nil keepO_cons roundC_normal roundC_exit roundC_ret roundC_goto sweep_eq sweepD rnm pickR pickW rootsB ptrT renT ptrFn renFn ptrB_flat ptrB_non renB_flat renB_non plainS_some drawS_some fpsOk disj unord range' dropTo enumT undef wrap_i64_id Value.cells mkCells ptrTo scal cellsAt rdN endS_ret resultsA Option.bind_some tupV finish reachN dep ptrL_eq ptrL renL_eq renL ptrV_bool ptrV_int ptrV_string ptrV_nilFunc ptrV_nilIface ptrV_nilPtr ptrV_ptr ptrV_nilSl ptrV_sl ptrV_iface ptrV_agg ptrV_tuple ptrV_func renV_bool renV_int renV_string renV_nilFunc renV_nilIface renV_nilPtr renV_ptr renV_nilSl renV_sl renV_iface renV_agg renV_tuple renV_func gotoS_goto gotoS_normal gotoS_exit gotoS_ret skip_seq sliceE bnd bndHi intOf optOpd keepT_nil keepT_cons keepC_t keepC_f lk_nil lk_cons lkC_t lkC_f has_nil has_cons hasC_t hasC_f rep_nil rep_cons repC_t repC_f put_eq putC_t putC_f mem_nil mem_cons memC_t memC_f idx_nil idx_cons idxC_t idxC_f reach_nil reachP_cons reachQ_t reachQ_f ptrB_dead renB_dead ins_eq
attribute [local simp] n71_1s n71_3s n71_4s n71_2s n71_0s Try.f71 n53_1s n53_4s n53_7s n53_8s n53_6s n53_9s n53_5s n53_3s n53_11s n53_14s n53_18s n53_21s n53_22s n53_20s n53_26s n53_28s n53_31s n53_32s n53_30s n53_33s n53_29s n53_27s n53_25s n53_24s n53_34s n53_23s n53_19s n53_17s n53_16s n53_16g n53_15s n53_13s n53_36s n53_37s n53_35s n53_12s n53_10s n53_2s n53_0s Try.f53
theorem k71 (M i : Nat) (hM : M < 2 ^ 32) (hi : i < 32) (h : List Blk) : callH LL 71 [wv M, iv i] h = some ⟨.bool (M.testBit i), h, [], []⟩ := by
  refine callH_none rfl (fun _ => rfl) (go (by decide) ?_) fun _ => rfl
  have f1 := @fdiv_poww M i hi
  have hq : M / 2 ^ i < 2 ^ 32 := by have := Nat.div_le_self M (2 ^ i); omega
  have f2 := fun c => @bin_and1w Try.prog 77 c _ hq
  rw [Nat.testBit_eq_decide_div_mod_eq]
  generalize M / 2 ^ i = q at *
  rw [run71 _ _ _ (by simp)]
  by_cases h1 : q % 2 = 1
  · have h1' := eq_true (show (q : Int) % 2 = 1 by omega)
    simp (maxSteps := 1000000) (disch := first | omega | decide | assumption | simp [scal]) [f1, f2, h1, h1']
  · have h1' : ¬ (q : Int) % 2 = 1 := by omega
    simp (maxSteps := 1000000) (disch := first | omega | decide | assumption | simp [scal]) [f1, f2, h1, h1']
/-- no day that is left, from the j-th one on, is surely quieter -/
def nxK (l : Nat → Int × Int) (M i : Nat) : Nat → Nat → Bool
  | 0, _ => true
  | k + 1, j => if !M.testBit j && quiet l j i then false else nxK l M i k (j + 1)
def nxB (l : Nat → Int × Int) (n M i : Nat) : Bool := !M.testBit i && nxK l M i n 0
section
variable (off n c : Nat) {cs : List Value} {own : Bool} {l : Nat → Int × Int}
theorem l53 (hc : SpC cs off n l) (hn : n ≤ 30) (M i : Nat) (hM : M < 2 ^ 32) (hi : i < n) : ∀ (k j : Nat), j + k = n →
    lpB Try.prog LL ⟨53, 30, 1, none⟩ n53_16 n53_17 ⟨[(1, wv M), (2, iv i), (7, .func (.func 77) #[sl 0 off n c] #[]), (15, iv n), (16, iv j)], [.cells cs 2 true own], []⟩ =
      if nxK l M i k j = true then some (.exit 0, ⟨[], [.cells cs 2 true own], []⟩) else some (.ret, ⟨[(6, .bool false)], [.cells cs 2 true own], []⟩) := by
  intro k
  induction k with
  | zero =>
    intro j hj
    obtain rfl : j = n := by omega
    rw [lpB_eq]
    simp (maxSteps := 1000000) (disch := first | omega | decide | assumption | simp [scal]) [lenA_sl lk_78, want_some q53_28g4, nxK]
  | succ k ih =>
    intro j hj
    have e1 : (j : Int) < n := by omega
    have a1 := fun bx => k77 0 off n c (h := .cells cs 2 true own :: bx) rfl hc j i (by omega) hi
    have a2 := k71 M j hM (by omega)
    have this := ih (j + 1) (by omega)
    unfold nxK
    simp only [cast1] at this
    generalize quiet l j i = x at *
    generalize M.testBit j = y at *
    rw [lpB_eq]
    cases x <;> cases y <;> simp only [Bool.not_true, Bool.not_false, Bool.and_true, Bool.and_false, Bool.false_eq_true, if_false, if_true]
    · simp (maxSteps := 1000000) (disch := first | omega | decide | assumption | simp [scal]) [lenA_sl lk_78, want_some q53_28g4, e1, a1, a2, callV_fc, this]
    · simp (maxSteps := 1000000) (disch := first | omega | decide | assumption | simp [scal]) [lenA_sl lk_78, want_some q53_28g4, e1, a1, a2, callV_fc, this]
    · simp (maxSteps := 1000000) (disch := first | omega | decide | assumption | simp [scal]) [lenA_sl lk_78, want_some q53_28g4, e1, a1, a2, callV_fc]
    · simp (maxSteps := 1000000) (disch := first | omega | decide | assumption | simp [scal]) [lenA_sl lk_78, want_some q53_28g4, e1, a1, a2, callV_fc, this]
end
section
variable (b off n c : Nat) {cs : List Value} {own : Bool} {l : Nat → Int × Int} {h : List Blk} (hb : h[b]? = some (.cells cs 2 true own)) (hc : SpC cs off n l)
include hb hc
theorem k53 (hn : n ≤ 30) (M i : Nat) (hM : M < 2 ^ 32) (hi : i < n) : callH LL 53 [sl b off n c, wv M, iv i] h = some ⟨.bool (nxB l n M i), h, [b], []⟩ := by
  refine callH_1 rfl hb noIdB_flat (args' := [sl 0 off n c, wv M, iv i]) (by simp [renV, dep, optAll, idx, nbeq]) (go (by decide) ?_) fun _ => rfl
  have a2 := k71 M i hM (by omega)
  have this := l53 off n c (own := own) hc hn M i hM hi n 0 (by omega)
  simp only [Int.natCast_zero] at this
  unfold nxB
  rw [run53 _ _ _ (by simp)]
  generalize M.testBit i = y at *
  cases y
  · cases h1 : nxK l M i n 0 <;> rw [h1] at this <;> simp only [Bool.false_eq_true, if_false, if_true] at this
    · simp (maxSteps := 1000000) (disch := first | omega | decide | assumption | simp [scal]) [lenA_sl lk_78, want_some q53_28g4, a2, this]
    · simp (maxSteps := 1000000) (disch := first | omega | decide | assumption | simp [scal]) [lenA_sl lk_78, want_some q53_28g4, a2, this]
  · simp (maxSteps := 1000000) (disch := first | omega | decide | assumption | simp [scal]) [lenA_sl lk_78, want_some q53_28g4, a2]
end
/-- the first day that can come next -/
def selK (l : Nat → Int × Int) (n M : Nat) : Nat → Nat → Option Nat
  | 0, _ => none
  | k + 1, i => if nxB l n M i = true then some i else selK l n M k (i + 1)
/-- the first order, with q days left -/
def fsL (l : Nat → Int × Int) (n : Nat) : Nat → Nat → List Nat
  | 0, _ => []
  | q + 1, M => match selK l n M n 0 with
    | none => []
    | some i => i :: fsL l n q (M ||| 2 ^ i)
end Go.Proofs.Ytfccmddkblbeoaa.rk
namespace Go.Proofs.Ytfccmddkblbeoaa.rk
open Go.GE
set_option linter.unusedVariables false
set_option linter.unusedSimpArgs false
set_option linter.unusedSectionVars false
set_option maxRecDepth 100000
set_option maxHeartbeats 4000000
theorem nxK_iff {l : Nat → Int × Int} {M i : Nat} : ∀ k j, nxK l M i k j = true ↔ ∀ t, j ≤ t → t < j + k → M.testBit t = true ∨ quiet l t i = false := by
  intro k
  induction k with
  | zero => intro j; simp only [nxK, true_iff]; intro t h1 h2; omega
  | succ k ih =>
    intro j
    unfold nxK
    cases h1 : M.testBit j <;> cases h2 : quiet l j i <;> simp only [Bool.not_true, Bool.not_false, Bool.and_true, Bool.and_false, Bool.false_eq_true, if_false, if_true, ih, false_iff]
    · constructor
      · intro h t a b
        by_cases ht : t = j
        · subst ht; exact .inr h2
        · exact h t (by omega) (by omega)
      · intro h t a b; exact h t (by omega) (by omega)
    · intro h
      rcases h j (by omega) (by omega) with g | g
      · rw [h1] at g; cases g
      · rw [h2] at g; cases g
    · constructor
      · intro h t a b
        by_cases ht : t = j
        · subst ht; exact .inl h1
        · exact h t (by omega) (by omega)
      · intro h t a b; exact h t (by omega) (by omega)
    · constructor
      · intro h t a b
        by_cases ht : t = j
        · subst ht; exact .inl h1
        · exact h t (by omega) (by omega)
      · intro h t a b; exact h t (by omega) (by omega)
theorem selK_some {l : Nat → Int × Int} {n M : Nat} : ∀ k i, (∃ x, i ≤ x ∧ x < i + k ∧ nxB l n M x = true) → ∃ r, selK l n M k i = some r ∧ i ≤ r ∧ r < i + k ∧ nxB l n M r = true := by
  intro k
  induction k with
  | zero => rintro i ⟨x, h1, h2, _⟩; omega
  | succ k ih =>
    rintro i ⟨x, h1, h2, h3⟩
    unfold selK
    by_cases h : nxB l n M i = true
    · rw [if_pos h]; exact ⟨i, rfl, by omega, by omega, h⟩
    · rw [if_neg h]
      obtain ⟨r, g1, g2, g3, g4⟩ := ih (i + 1) ⟨x, by
        by_cases hx : x = i
        · subst hx; exact absurd h3 h
        · omega, by omega, h3⟩
      exact ⟨r, g1, by omega, by omega, g4⟩
theorem selK_in {l : Nat → Int × Int} {n M : Nat} : ∀ k i r, selK l n M k i = some r → i ≤ r ∧ r < i + k ∧ nxB l n M r = true := by
  intro k
  induction k with
  | zero => intro i r h; cases h
  | succ k ih =>
    intro i r h
    unfold selK at h
    by_cases h' : nxB l n M i = true
    · rw [if_pos h'] at h; cases h; exact ⟨by omega, by omega, h'⟩
    · rw [if_neg h'] at h
      have := ih (i + 1) r h
      exact ⟨by omega, by omega, this.2.2⟩
/-- how many of the first n days are left -/
def cntU : Nat → Nat → Nat
  | 0, _ => 0
  | n + 1, M => cntU n M + if M.testBit n then 0 else 1
theorem bit_or {M i t : Nat} : (M ||| 2 ^ i).testBit t = (M.testBit t || decide (i = t)) := by rw [Nat.testBit_or, Nat.testBit_two_pow]
theorem cntU_ge {M i : Nat} : ∀ n, n ≤ i → cntU n (M ||| 2 ^ i) = cntU n M := by
  intro n
  induction n with
  | zero => intro _; rfl
  | succ n ih =>
    intro h
    simp only [cntU, ih (by omega), bit_or, show ¬ i = n by omega, decide_false, Bool.or_false]
theorem cntU_lt {M i : Nat} (hM : M.testBit i = false) : ∀ n, i < n → cntU n (M ||| 2 ^ i) + 1 = cntU n M := by
  intro n
  induction n with
  | zero => intro h; omega
  | succ n ih =>
    intro h
    by_cases hi : i = n
    · subst hi
      simp only [cntU, cntU_ge i (Nat.le_refl _), bit_or, decide_true, Bool.or_true, hM, if_true]
      simp
    · have := ih (by omega)
      simp only [cntU, bit_or, hi, decide_false, Bool.or_false]
      omega
theorem cntU_zero {n : Nat} : cntU n 0 = n := by
  induction n with
  | zero => rfl
  | succ n ih => simp [cntU, ih]
theorem cntU_min {l : Nat → Int × Int} {M : Nat} : ∀ n, 0 < cntU n M → ∃ i, i < n ∧ M.testBit i = false ∧ ∀ k, k < n → M.testBit k = false → (l i).1 ≤ (l k).1 := by
  intro n
  induction n with
  | zero => intro h; simp [cntU] at h
  | succ n ih =>
    intro h
    by_cases h0 : 0 < cntU n M
    · obtain ⟨i, h1, h2, h3⟩ := ih h0
      by_cases hn : M.testBit n = false ∧ (l n).1 < (l i).1
      · refine ⟨n, by omega, hn.1, fun k hk hm => ?_⟩
        by_cases e : k = n
        · subst e; omega
        · have := h3 k (by omega) hm; omega
      · refine ⟨i, by omega, h2, fun k hk hm => ?_⟩
        by_cases e : k = n
        · subst e
          have : ¬ (l k).1 < (l i).1 := fun hh => hn ⟨hm, hh⟩
          omega
        · exact h3 k (by omega) hm
    · have hb : M.testBit n = false := by
        cases hb : M.testBit n
        · rfl
        · simp only [cntU, hb, if_true] at h; omega
      refine ⟨n, by omega, hb, fun k hk hm => ?_⟩
      by_cases e : k = n
      · subst e; omega
      · exfalso
        have : ∀ n k, k < n → M.testBit k = false → 0 < cntU n M := by
          intro n
          induction n with
          | zero => intro k hk; omega
          | succ n ih =>
            intro k hk hm
            simp only [cntU]
            by_cases e : k = n
            · subst e; rw [hm]; simp
            · have := ih k (by omega) hm; omega
        exact h0 (this n k (by omega) hm)
theorem chk_le {l : Nat → Int × Int} {n : Nat} (h : chkS l n = 0) : ∀ i, i < n → (l i).1 ≤ (l i).2 := by
  obtain ⟨n0, n30⟩ := chk_ok h
  unfold chkS at h
  rw [if_neg (by omega), if_neg (by omega)] at h
  have ha : anyB l n 0 = false := by
    cases hb : anyB l n 0
    · rfl
    · rw [hb, if_pos rfl] at h; omega
  intro i hi
  have := any_iff.1 ha i hi
  unfold bad at this
  simp only [Bool.or_eq_false_iff, Bool.not_eq_false', Bool.and_eq_true, decide_eq_true_eq] at this
  omega
end Go.Proofs.Ytfccmddkblbeoaa.rk
namespace Go.Proofs.Ytfccmddkblbeoaa.rk
open Go.GE
set_option linter.unusedVariables false
set_option linter.unusedSimpArgs false
set_option linter.unusedSectionVars false
set_option maxRecDepth 100000
set_option maxHeartbeats 4000000
def fstR (l : Nat → Int × Int) (n : Nat) : List Nat := if chkS l n = 0 then fsL l n n 0 else []
end Go.Proofs.Ytfccmddkblbeoaa.rk
namespace Go.Proofs.Ytfccmddkblbeoaa.rk
open Go.GE
set_option linter.unusedVariables false
set_option linter.unusedSimpArgs false
set_option linter.unusedSectionVars false
set_option maxRecDepth 100000
set_option maxHeartbeats 4000000
/-- a call, a step at a time -/
theorem callH_lit {f : FuncId} {args args' : List Value} {h hm h' : List Blk} {roots ρ : List Nat} {rr : RR} {v : Value} {rd wr : List Nat} (hk : idle LL f args) (h1 : args.flatMap (ptrV dep) = roots) (h2 : reach h 0 reachN roots [] = ρ) (h3 : optAll (renV (idx ρ) dep) args = some args')
    (h4 : optAll (pickB h (idx ρ)) ρ = some hm) (h5 : LL.run f args' hm = some rr) (h6 : mergeB h ρ rr = some ⟨v, h', rd, wr⟩) (hrd : ∀ b, b ∈ rd → b < h.length) : callH LL f args h = some ⟨v, h', rd, wr⟩ := by
  refine callH_of hk ?_ hrd
  subst h1 h2
  show (match optAll (renV (idx _) dep) args, optAll (pickB h (idx _)) _ with
    | some args', some hm => match LL.run f args' hm with
      | some rr => mergeB h _ rr
      | none => none
    | _, _ => none) = _
  rw [h3, h4]
  simp only [h5]
  exact h6
theorem sel_succ {l : Nat → Int × Int} {n M q : Nat} (hl : ∀ i, i < n → (l i).1 ≤ (l i).2) (h : cntU n M = q + 1) : ∃ r, selK l n M n 0 = some r ∧ r < n ∧ M.testBit r = false ∧ cntU n (M ||| 2 ^ r) = q := by
  obtain ⟨i, h1, h2, h3⟩ := cntU_min (l := l) (M := M) n (by omega)
  obtain ⟨r, g1, g2, g3, g4⟩ := selK_some (l := l) (n := n) (M := M) n 0 ⟨i, by omega, by omega, by
    unfold nxB
    rw [h2, Bool.not_false, Bool.true_and, nxK_iff]
    intro t a b
    cases ht : M.testBit t
    · refine .inr ?_
      unfold quiet
      have := h3 t (by omega) ht
      have := hl t (by omega)
      simp only [decide_eq_false_iff_not]; omega
    · exact .inl rfl⟩
  have hb : M.testBit r = false := by
    unfold nxB at g4
    simp only [Bool.and_eq_true, Bool.not_eq_true'] at g4
    exact g4.1
  have := cntU_lt hb n (by omega)
  exact ⟨r, g1, by omega, hb, by omega⟩
end Go.Proofs.Ytfccmddkblbeoaa.rk
namespace Go.Proofs.Ytfccmddkblbeoaa.rk
open Go.GE
set_option linter.unusedVariables false
set_option linter.unusedSimpArgs false
set_option linter.unusedSectionVars false
set_option maxRecDepth 100000
set_option maxHeartbeats 4000000
def mE (es : List (Nat × Nat)) : List (Value × Value) := es.map fun p => (wv p.1, iv p.2)
def fmB (es : List (Nat × Nat)) : Blk := .map (mE es)
theorem findA_mE {M : Nat} : ∀ (es : List (Nat × Nat)) (j : Nat), (∃ (i v : Nat), findA (wv M) (mE es) j = some (some (j + i, iv v)) ∧ es[i]? = some (M, v)) ∨ (findA (wv M) (mE es) j = some none ∧ ∀ p, p ∈ es → p.1 ≠ M) := by
  intro es
  induction es with
  | nil => intro j; exact .inr ⟨rfl, fun p hp => by cases hp⟩
  | cons q es ih =>
    intro j
    obtain ⟨x, v⟩ := q
    have e : findA (wv M) (mE ((x, v) :: es)) j = if M = x then some (some (j, iv v)) else findA (wv M) (mE es) (j + 1) := by
      simp only [mE, List.map_cons, findA, sameK]
      by_cases h : M = x
      · subst h; simp
      · have : ((M : Int) == (x : Int)) = false := by simp; omega
        simp [h, this]
    by_cases h : M = x
    · subst h
      refine .inl ⟨0, v, ?_, rfl⟩
      rw [e, if_pos rfl]; rfl
    · rcases ih (j + 1) with ⟨i, u, h1, h2⟩ | ⟨h1, h2⟩
      · refine .inl ⟨i + 1, u, ?_, h2⟩
        rw [e, if_neg h, h1, show j + 1 + i = j + (i + 1) by omega]
      · refine .inr ⟨by rw [e, if_neg h, h1], fun p hp => ?_⟩
        rcases List.mem_cons.1 hp with rfl | hp
        · exact fun hh => h hh.symm
        · exact h2 p hp
theorem mE_set {es : List (Nat × Nat)} {i M v : Nat} : (mE es).set i (wv M, iv v) = mE (es.set i (M, v)) := by simp [mE, List.map_set]
theorem mE_app {es : List (Nat × Nat)} {M v : Nat} : mE es ++ [(wv M, iv v)] = mE (es ++ [(M, v)]) := by simp [mE]
theorem renP_mE {f : Nat → Option Nat} : ∀ {es : List (Nat × Nat)}, renP f (mE es) = some (mE es) := by
  intro es
  induction es with
  | nil => rfl
  | cons q es ih =>
    have : mE (q :: es) = (wv q.1, iv q.2) :: mE es := rfl
    rw [this]
    simp only [renP, ih]
    rfl
theorem fm_ren {f : Nat → Option Nat} {es : List (Nat × Nat)} : renB f (fmB es) = some (fmB es) := by
  simp only [fmB, renB, renP_mE, Option.map_some]
theorem fm_ptr {es : List (Nat × Nat)} : ptrB (fmB es) = [] := by
  simp only [fmB, ptrB, List.flatMap_eq_nil_iff]
  intro p hp
  simp only [mE, List.mem_map] at hp
  obtain ⟨q, _, rfl⟩ := hp
  rfl
theorem ptrV_map {d b : Nat} : ptrV (d + 1) (.map (some b)) = [b] := rfl
theorem renV_map {f : Nat → Option Nat} {d b : Nat} : renV f (d + 1) (.map (some b)) = (f b).map fun b' => .map (some b') := rfl
/-- a look-up -/
def lookM (h : List Blk) (b M : Nat) : Option OR := match h[b]? with
  | some (.map es) => match findA (wv M) es 0 with
    | some r => some ⟨.tuple #[(r.map (·.2)).getD (iv 0), .bool r.isSome], h, [b], []⟩
    | none => none
  | _ => none
def updM (h : List Blk) (b M : Nat) (v : Value) : Option OR := match h[b]? with
  | some (.map es) => match findA (wv M) es 0 with
    | some (some (i, _)) => some ⟨undef, h.set b (.map (es.set i (wv M, v))), [b], [b]⟩
    | some none => some ⟨undef, h.set b (.map (es ++ [(wv M, v)])), [b], [b]⟩
    | none => none
  | _ => none
/-- a look-up, its operands told -/
def lookX (P : Program) (t : TypeId) (h : List Blk) (x k : Option Value) (ok : Bool) : Option OR := match P.underlying t, x, k with
    | some (.map kt et), some (.map m), some kv => match P.underlying kt, zeroA P et, (match m with | none => some ([], []) | some b => (mapAt h b).map fun es => (es, [b])) with
      | some kd, some z, some (es, rd) => cond (keyKind kd kv) (match findA kv es 0 with
        | some r => some ⟨if ok then .tuple #[(r.map (·.2)).getD z, .bool r.isSome] else (r.map (·.2)).getD z, h, rd, []⟩
        | none => none) none
      | _, _, _ => none
    | _, _, _ => none
def updX (P : Program) (t : TypeId) (h : List Blk) (m k v : Option Value) : Option OR := match m, k, v with
    | some m, some k, some v => updA P h t m k v
    | _, _, _ => none
section
variable {σ : Tm} {h : List Blk} {d : Option Nat} {ty : TypeId} {pos : String} {af : Array Edge} {g : Option (Nat × Bool)} {t : TypeId} {x y z : Operand} {ok : Bool}
theorem o_look : aop Try.prog LL σ h ⟨d, .lookup t x y ok, ty, pos, af, g⟩ = lookX Try.prog t h (opd σ x) (opd σ y) ok := rfl
theorem o_mapU : aop Try.prog LL σ h ⟨d, .mapUpdate t x y z, ty, pos, af, g⟩ = updX Try.prog t h (opd σ x) (opd σ y) (opd σ z) := rfl
theorem o_insert : aop Try.prog LL σ h ⟨d, .insert t x y z, ty, pos, af, g⟩ = updX Try.prog t h (opd σ x) (opd σ y) (opd σ z) := rfl
end
theorem look108 {h : List Blk} {b M : Nat} : lookX Try.prog 108 h (some (.map (some b))) (some (wv M)) true = lookM h b M := by
  have e1 : Try.prog.underlying 108 = some (.map 77 3) := by kernel_rfl
  have e2 : Try.prog.underlying 77 = some (.int .u32) := by kernel_rfl
  have e3 : zeroA Try.prog 3 = some (iv 0) := by kernel_rfl
  simp only [lookX, e1, e2, e3, lookM, mapAt]
  rcases h[b]? with _ | blk
  · rfl
  · cases blk <;> first | rfl | (simp [keyKind]; done) | (simp [keyKind]; rfl)
theorem upd108 {h : List Blk} {b M : Nat} {v : Value} : updX Try.prog 108 h (some (.map (some b))) (some (wv M)) (some v) = updM h b M v := by
  have e1 : Try.prog.underlying 108 = some (.map 77 3) := by kernel_rfl
  have e2 : Try.prog.underlying 77 = some (.int .u32) := by kernel_rfl
  simp only [updX, updA, e1, e2, updM, mapAt]
  rcases h[b]? with _ | blk
  · rfl
  · cases blk <;> first | rfl | (simp [keyKind]; done) | (simp [keyKind]; rfl)
theorem o_makeMap {σ : Tm} {h : List Blk} {d : Option Nat} {ty : TypeId} {pos : String} {af : Array Edge} {g : Option (Nat × Bool)} {t : TypeId} : aop Try.prog LL σ h ⟨d, .makeMap t none, ty, pos, af, g⟩ = allocR h (.map []) fun b => .map (some b) := rfl
theorem look_hit {h : List Blk} {b M i v : Nat} {es : List (Nat × Nat)} (hb : h[b]? = some (fmB es)) (hf : findA (wv M) (mE es) 0 = some (some (i, iv v))) : lookM h b M = some ⟨.tuple #[iv v, .bool true], h, [b], []⟩ := by
  simp only [lookM, hb, fmB, hf]; rfl
theorem look_miss {h : List Blk} {b M : Nat} {es : List (Nat × Nat)} (hb : h[b]? = some (fmB es)) (hf : findA (wv M) (mE es) 0 = some none) : lookM h b M = some ⟨.tuple #[iv 0, .bool false], h, [b], []⟩ := by
  simp only [lookM, hb, fmB, hf]; rfl
/-- what an update leaves -/
def updE (es : List (Nat × Nat)) (M v : Nat) : List (Nat × Nat) := match findA (wv M) (mE es) 0 with
  | some (some (i, _)) => es.set i (M, v)
  | _ => es ++ [(M, v)]
theorem upd_eq {h : List Blk} {b M v : Nat} {es : List (Nat × Nat)} (hb : h[b]? = some (fmB es)) : updM h b M (iv v) = some ⟨undef, h.set b (fmB (updE es M v)), [b], [b]⟩ := by
  simp only [updM, hb, fmB, updE]
  rcases findA_mE (M := M) es 0 with ⟨i, u, h1, _⟩ | ⟨h1, _⟩ <;> rw [h1] <;> simp only [mE_set, mE_app]
theorem updE_mem {es : List (Nat × Nat)} {M v : Nat} {p : Nat × Nat} (hp : p ∈ updE es M v) : p ∈ es ∨ p = (M, v) := by
  unfold updE at hp
  split at hp
  · exact List.mem_or_eq_of_mem_set hp
  · rcases List.mem_append.1 hp with h | h
    · exact .inl h
    · exact .inr (List.mem_singleton.1 h)
theorem updE_key {es : List (Nat × Nat)} {M v K : Nat} (h : ∃ p, p ∈ es ∧ p.1 = K) : ∃ p, p ∈ updE es M v ∧ p.1 = K := by
  obtain ⟨p, hp, hk⟩ := h
  unfold updE
  rcases findA_mE (M := M) es 0 with ⟨i, u, h1, h2⟩ | ⟨h1, _⟩ <;> rw [h1] <;> simp only
  · obtain ⟨j, hj⟩ := List.getElem?_of_mem hp
    rw [Nat.zero_add]
    by_cases hij : i = j
    · subst hij
      rw [h2] at hj; cases hj
      have hl : i < es.length := (List.getElem?_eq_some_iff.1 h2).1
      exact ⟨(M, v), List.mem_of_getElem? (i := i) (by rw [List.getElem?_set]; simp [hl]), hk⟩
    · exact ⟨p, List.mem_of_getElem? (i := j) (by rw [List.getElem?_set]; simp [hij, hj]), hk⟩
  · exact ⟨p, by simp [hp], hk⟩
end Go.Proofs.Ytfccmddkblbeoaa.rk
namespace Go.Proofs.Ytfccmddkblbeoaa.rk
open Go.GE
set_option linter.unusedVariables false
set_option linter.unusedSimpArgs false
set_option linter.unusedSectionVars false
set_option maxRecDepth 100000
set_option maxHeartbeats 4000000
def cS (f : Nat → Nat) : Nat → Nat → Nat → Nat
  | 0, _, a => a
  | k + 1, i, a => cS f k (i + 1) (a + f i)
def cR (nx : Nat → Nat → Bool) (n : Nat) : Nat → Nat → Nat
  | 0, _ => 1
  | k + 1, M => cS (fun i => cond (nx M i) (cR nx n k (M ||| 2 ^ i)) 0) n 0 0
def cF (nx : Nat → Nat → Bool) (n k M : Nat) : Nat → Nat := fun i => cond (nx M i) (cR nx n k (M ||| 2 ^ i)) 0
theorem cS_le {f : Nat → Nat} {B : Nat} (h : ∀ i, f i ≤ B) : ∀ k i a, cS f k i a ≤ a + k * B := by
  intro k
  induction k with
  | zero => intro i a; simp [cS]
  | succ k ih =>
    intro i a
    have := ih (i + 1) (a + f i)
    have := h i
    simp only [cS, Nat.add_mul]
    omega
theorem pow_le12 {n k : Nat} (hn : n ≤ 12) (hk : k ≤ 12) : n ^ k ≤ 8916100448256 := by
  have h1 : n ^ k ≤ 12 ^ k := Nat.pow_le_pow_left hn k
  have h2 : 12 ^ k ≤ 12 ^ 12 := Nat.pow_le_pow_right (by decide) hk
  have h3 : (12 : Nat) ^ 12 = 8916100448256 := by decide
  omega
theorem cntU_le {n M : Nat} : cntU n M ≤ n := by
  induction n with
  | zero => exact Nat.le_refl _
  | succ n ih => simp only [cntU]; split <;> omega
/-- what the table holds is true -/
def InvR (nx : Nat → Nat → Bool) (n : Nat) (es : List (Nat × Nat)) : Prop := (∀ p, p ∈ es → p.1 < 2 ^ n ∧ p.2 = cR nx n (cntU n p.1) p.1) ∧ ∃ p, p ∈ es ∧ p.1 = 2 ^ n - 1
theorem InvR.upd {nx : Nat → Nat → Bool} {n : Nat} {es : List (Nat × Nat)} (h : InvR nx n es) {M : Nat} (hM : M < 2 ^ n) : InvR nx n (updE es M (cR nx n (cntU n M) M)) := by
  refine ⟨fun p hp => ?_, updE_key h.2⟩
  rcases updE_mem hp with hp | rfl
  · exact h.1 p hp
  · exact ⟨hM, rfl⟩
abbrev mayB : Blk := .cells [.func (.func 78) #[] #[]] 1 false true
end Go.Proofs.Ytfccmddkblbeoaa.rk
namespace Go.Proofs.Ytfccmddkblbeoaa.rk
open Go.GE
set_option linter.unusedVariables false
set_option linter.unusedSimpArgs false
set_option linter.unusedSectionVars false
set_option maxRecDepth 100000
set_option maxHeartbeats 4000000
attribute [local simp] runOps_nil runOps_cons runOpsF_nil runOpsF_cons fstS_some fstF_some opStep_eq want_none oStep_true oStep_false fin_pure fin_read fin_alloc fin_write storeB wrN cellV addWr o_move o_assign o_pick o_alloc o_box o_load o_store o_nilCheck o_bin o_un o_extract o_callV o_callB o_callI callV_f callV_y callV_fc o_makeFunc partsA Instr.fill builtin_len builtin_max2 bin_add bin_sub bin_mul bin_quo bin_rem bin_lss bin_leq bin_gtr bin_geq bin_eql bin_neq un_neg un_not bin_shr bin_shl wrap_u64_id opd opds optAll putO nbeq nblt constOk isC ops sub cl cr co bodyOf thenS_normal thenS_ret thenS_exit thenS_goto afterN_normal afterN_ret afterN_exit afterN_goto condS_true condS_false blockS_normal blockS_ret blockS_exit blockS_goto headS normS normK_eq fixS_nil fixS_cons fix1 fixV emptyB keepO_nil keepO_cons roundC_normal roundC_exit roundC_ret roundC_goto sweep_eq sweepD rnm pickR pickW rootsB ptrT renT ptrFn renFn ptrB_flat ptrB_non renB_flat renB_non plainS_some drawS_some fpsOk disj unord range' dropTo enumT undef wrap_i64_id Value.cells mkCells ptrTo scal cellsAt rdN endS_ret resultsA Option.bind_some tupV finish reachN dep ptrL_eq ptrL renL_eq renL ptrV_bool ptrV_int ptrV_string ptrV_nilFunc ptrV_nilIface ptrV_nilPtr ptrV_ptr ptrV_nilSl ptrV_sl ptrV_iface ptrV_agg ptrV_tuple ptrV_func renV_bool renV_int renV_string renV_nilFunc renV_nilIface renV_nilPtr renV_ptr renV_nilSl renV_sl renV_iface renV_agg renV_tuple renV_func gotoS_goto gotoS_normal gotoS_exit gotoS_ret skip_seq sliceE bnd bndHi intOf optOpd keepT_nil keepT_cons keepC_t keepC_f lk_nil lk_cons lkC_t lkC_f has_nil has_cons hasC_t hasC_f rep_nil rep_cons repC_t repC_f put_eq putC_t putC_f mem_nil mem_cons memC_t memC_f idx_nil idx_cons idxC_t idxC_f reach_nil reachP_cons reachQ_t reachQ_f ptrB_dead renB_dead ins_eq
attribute [local simp] n69_1s n69_3s n69_5s n69_7s n69_9s n69_11s n69_12s n69_10s n69_8s n69_6s n69_4s n69_2s n69_0s Try.f69
section
variable (off n c : Nat) {cs : List Value} {own : Bool} {l : Nat → Int × Int}
/-- a counter's blocks: the month's cells are block z, the first of them is block d -/
abbrev NW (z d : Nat) (es eb : List (Nat × Nat)) : List Blk := [.cells [sl z off n c, pp (d + 1), pp (d + 6)] 1 false true, .cells [.map (some (d + 2)), .func (.func 80) #[] #[pp (d + 3), pp (d + 4), pp (d + 5)]] 1 false true, fmB es,
  .cells [sl z off n c] 1 false true, mayB, .cells [pp d] 1 false true, .cells [.map (some (d + 7)), .func (.func 81) #[] #[pp (d + 3), pp (d + 5)]] 1 false true, fmB eb]
theorem k69 (hn : n ≤ 30) : callH LL 69 [sl 0 off n c, .func (.func 78) #[] #[]] [.cells cs 2 true own] = some ⟨pp 1, .cells cs 2 true own :: NW off n c 0 1 [(2 ^ n - 1, 1)] [(0, 1)], [0], []⟩ := by
  have f3 := shl_poww (J := n) (by omega)
  have p1 : 2 ^ n < 2 ^ 32 := Nat.pow_lt_pow_right (by decide) (by omega)
  have p0 : 0 < 2 ^ n := Nat.two_pow_pos n
  have f4 : IntKind.u32.wrap (((2 ^ n : Nat) : Int) - 1) = ((2 ^ n - 1 : Nat) : Int) := by
    rw [show ((2 ^ n : Nat) : Int) - 1 = ((2 ^ n - 1 : Nat) : Int) by omega]
    exact wrap_u32 (by omega)
  have u1 := fun b0 b1 b2 b3 b4 => upd_eq (h := [b0, b1, b2, b3, b4, fmB []]) (b := 5) (M := 2 ^ n - 1) (v := 1) (es := []) rfl
  have u2 := fun b0 b1 b2 b3 b4 b5 b6 => upd_eq (h := [b0, b1, b2, b3, b4, b5, b6, fmB []]) (b := 7) (M := 0) (v := 1) (es := []) rfl
  have hrun : LL.run 69 [sl 0 off n c, .func (.func 78) #[] #[]] [.cells cs 2 true own] = some ⟨pp 1, NW off n c 0 1 [(2 ^ n - 1, 1)] [(0, 1)], []⟩ := by
    refine go (by decide) ?_
    have e1 : updE [] (2 ^ n - 1) 1 = [(2 ^ n - 1, 1)] := rfl
    have e2 : updE [] 0 1 = [(0, 1)] := rfl
    rw [e1] at u1
    rw [e2] at u2
    generalize hE : fmB [(2 ^ n - 1, 1)] = E at *
    generalize hB : fmB [(0, 1)] = B at *
    have q1 : ptrB E = [] := by rw [← hE]; exact fm_ptr
    have q2 : ptrB B = [] := by rw [← hB]; exact fm_ptr
    have q3 : ∀ f, renB f E = some E := by intro f; rw [← hE]; exact fm_ren
    have q4 : ∀ f, renB f B = some B := by intro f; rw [← hB]; exact fm_ren

    have m0 : Blk.map [] = fmB [] := rfl
    have z0 : ∀ h b v, updX Try.prog 108 h (some (.map (some b))) (some (.int .u32 0)) (some v) = updM h b 0 v := fun h b v => upd108 (M := 0)
    generalize 2 ^ n - 1 = A at *
    generalize ((2 ^ n : Nat) : Int) = A2 at *
    simp only [List.set_cons_succ, List.set_cons_zero] at u1 u2
    simp only [Int.natCast_zero, Int.natCast_one] at u1 u2
    rw [run69 _ _ _ (by simp)]
    simp (maxSteps := 1000000) (disch := first | omega | decide | assumption | simp [scal]) [loadA_eq ia_78, za_90, o_build za_90 pl_90, za_85, sz_85, lenA_sl lk_78, loadA_eq ia_85, za_110, o_build za_110 pl_110, o_fieldAddr fa_90_1 (by decide), sz_88, o_fieldAddr fa_90_2 (by decide), loadA_eq ia_88, f3, f4, o_insert, o_makeMap, upd108, z0, m0, u1, u2, q1, q2, q3, q4, fm_ptr, ptrV_map, renV_map]
    exact ⟨hE.symm, hB.symm⟩
  exact callH_lit (by intro _; first | trivial | rfl) (roots := [0]) rfl (ρ := [0]) (by simp only [reachP_cons, nblt, nbeq, mem_nil, mem_cons, memC_t, memC_f, reachQ_f, reachQ_t, Bool.or_false, Bool.or_true, Bool.false_or, Bool.true_or, decide_false, decide_true, Nat.not_lt_zero, rootsB, List.getElem?_cons_succ, List.getElem?_cons_zero, ptrB_non, ptrB_flat, ptrL_eq, ptrL, ptrV_bool, ptrV_int, ptrV_string, ptrV_nilFunc, ptrV_nilIface, ptrV_nilPtr, ptrV_nilSl, ptrV_iface, ptrV_agg, ptrV_tuple, ptrV_func, ptrV_ptr, ptrV_sl, dep, ptrFn, List.nil_append, List.cons_append, List.append_nil, reach_nil, reachN, Nat.reduceEqDiff, Nat.reduceAdd, Nat.reduceSub, reduceCtorEq, Nat.reduceLT, Nat.lt_irrefl, List.flatMap_cons, List.flatMap_nil, optAll, renL_eq, renL, renB_flat, renB_non, renV_bool, renV_int, renV_string, renV_nilFunc, renV_nilIface, renV_nilPtr, renV_ptr, renV_nilSl, renV_sl, renV_iface, renV_agg, renV_tuple, renV_func, renFn, idx_nil, idx_cons, idxC_t, idxC_f, Option.map_some, Option.map_none]) rfl rfl hrun (by simp [mergeB, renV_ptr, dep, optAll, renB_non, renL, renV_sl, renV_map, renV_func, renFn, fm_ren, renL_eq]) (by simp)
end
end Go.Proofs.Ytfccmddkblbeoaa.rk
namespace Go.Proofs.Ytfccmddkblbeoaa.rk
open Go.GE
set_option linter.unusedVariables false
set_option linter.unusedSimpArgs false
set_option linter.unusedSectionVars false
set_option maxRecDepth 100000
set_option maxHeartbeats 4000000
attribute [local simp] runOps_nil runOps_cons runOpsF_nil runOpsF_cons fstS_some fstF_some opStep_eq want_none oStep_true oStep_false fin_pure fin_read fin_alloc fin_write storeB wrN cellV addWr o_move o_assign o_pick o_alloc o_box o_load o_store o_nilCheck o_bin o_un o_extract o_callV o_callB o_callI callV_f callV_y callV_fc o_makeFunc partsA Instr.fill builtin_len builtin_max2 bin_add bin_sub bin_mul bin_quo bin_rem bin_lss bin_leq bin_gtr bin_geq bin_eql bin_neq un_neg un_not bin_shr bin_shl wrap_u64_id opd opds optAll putO nbeq nblt constOk isC ops sub cl cr co bodyOf thenS_normal thenS_ret thenS_exit thenS_goto afterN_normal afterN_ret afterN_exit afterN_goto condS_true condS_false blockS_normal blockS_ret blockS_exit blockS_goto headS normS normK_eq fixS_nil fixS_cons fix1 fixV emptyB keepO_nil keepO_cons roundC_normal roundC_exit roundC_ret roundC_goto sweep_eq sweepD rnm pickR pickW rootsB ptrT renT ptrFn renFn ptrB_flat ptrB_non renB_flat renB_non plainS_some drawS_some fpsOk disj unord range' dropTo enumT undef wrap_i64_id Value.cells mkCells ptrTo scal cellsAt rdN endS_ret resultsA Option.bind_some tupV finish reachN dep ptrL_eq ptrL renL_eq renL ptrV_bool ptrV_int ptrV_string ptrV_nilFunc ptrV_nilIface ptrV_nilPtr ptrV_ptr ptrV_nilSl ptrV_sl ptrV_iface ptrV_agg ptrV_tuple ptrV_func renV_bool renV_int renV_string renV_nilFunc renV_nilIface renV_nilPtr renV_ptr renV_nilSl renV_sl renV_iface renV_agg renV_tuple renV_func gotoS_goto gotoS_normal gotoS_exit gotoS_ret skip_seq sliceE bnd bndHi intOf optOpd keepT_nil keepT_cons keepC_t keepC_f lk_nil lk_cons lkC_t lkC_f has_nil has_cons hasC_t hasC_f rep_nil rep_cons repC_t repC_f put_eq putC_t putC_f mem_nil mem_cons memC_t memC_f idx_nil idx_cons idxC_t idxC_f reach_nil reachP_cons reachQ_t reachQ_f ptrB_dead renB_dead ins_eq
attribute [local simp] n59_1s n59_3s n59_7s n59_10s n59_11s n59_9s n59_13s n59_16s n59_17s n59_15s n59_18s n59_14s n59_12s n59_8s n59_6s n59_5s n59_20s n59_21s n59_19s n59_4s n59_2s n59_0s Try.f59
def cntE (l : Nat → Int × Int) (n : Nat) : Int := if chkS l n = 0 then (if 12 < n then 16 else 0) else chkS l n
def cntV (l : Nat → Int × Int) (n : Nat) : Nat := if cntE l n = 0 then cR (nxB l n) n n 0 else 0
section
variable (off n c : Nat) {cs : List Value} {own : Bool} {l : Nat → Int × Int}
theorem r59 (hc : SpC cs off n l) (hn : n ≤ 60) : LL.run 59 [sl 0 off n c] [.cells cs 2 true own] = if cntE l n = 0 then some ⟨.tuple #[pp 1, iv 0], NW off n c 0 1 [(2 ^ n - 1, 1)] [(0, 1)], []⟩ else some ⟨.tuple #[.pointer none, iv (cntE l n)], [], []⟩ := by
  have a := k45 0 off n c (h := [.cells cs 2 true own]) rfl hc hn
  by_cases h1 : chkS l n = 0
  · by_cases h2 : 12 < n
    · have e : cntE l n = 16 := by unfold cntE; rw [if_pos h1, if_pos h2]
      rw [if_neg (by omega), e]
      have h2' : (12 : Int) < n := by omega
      rw [h1] at a
      refine go (by decide) ?_
      rw [run59 _ _ _ (by simp)]
      simp (maxSteps := 1000000) (disch := first | omega | decide | assumption | simp [scal]) [lenA_sl lk_22, a, h2']
    · have e : cntE l n = 0 := by unfold cntE; rw [if_pos h1, if_neg h2]
      rw [if_pos e]
      have h2' : ¬ (12 : Int) < n := by omega
      have k := k69 off n c (cs := cs) (own := own) (chk_ok h1).2
      rw [h1] at a
      refine go (by decide) ?_
      rw [run59 _ _ _ (by simp)]
      simp (maxSteps := 1000000) (disch := first | omega | decide | assumption | simp [scal]) [lenA_sl lk_22, a, h2', k, fm_ptr, fm_ren, ptrV_map, renV_map]
  · have e : cntE l n = chkS l n := by unfold cntE; rw [if_neg h1]
    rw [e, if_neg h1]
    refine go (by decide) ?_
    rw [run59 _ _ _ (by simp)]
    simp (maxSteps := 1000000) (disch := first | omega | decide | assumption | simp [scal]) [lenA_sl lk_22, a, h1]
/-- the same at a place where only the month lies .. -/
theorem k59 (hc : SpC cs off n l) (hn : n ≤ 60) : callH LL 59 [sl 0 off n c] [.cells cs 2 true own] = if cntE l n = 0 then some ⟨.tuple #[pp 1, iv 0], .cells cs 2 true own :: NW off n c 0 1 [(2 ^ n - 1, 1)] [(0, 1)], [0], []⟩ else some ⟨.tuple #[.pointer none, iv (cntE l n)], [.cells cs 2 true own], [0], []⟩ := by
  have h := r59 off n c (own := own) hc hn
  by_cases h1 : cntE l n = 0
  · rw [if_pos h1] at h ⊢
    exact callH_lit (by intro _; first | trivial | rfl) (roots := [0]) rfl (ρ := [0]) (by simp only [reachP_cons, nblt, nbeq, mem_nil, mem_cons, memC_t, memC_f, reachQ_f, reachQ_t, Bool.or_false, Bool.or_true, Bool.false_or, Bool.true_or, decide_false, decide_true, Nat.not_lt_zero, rootsB, List.getElem?_cons_succ, List.getElem?_cons_zero, ptrB_non, ptrB_flat, ptrL_eq, ptrL, ptrV_bool, ptrV_int, ptrV_string, ptrV_nilFunc, ptrV_nilIface, ptrV_nilPtr, ptrV_nilSl, ptrV_iface, ptrV_agg, ptrV_tuple, ptrV_func, ptrV_ptr, ptrV_sl, dep, ptrFn, List.nil_append, List.cons_append, List.append_nil, reach_nil, reachN, Nat.reduceEqDiff, Nat.reduceAdd, Nat.reduceSub, reduceCtorEq, Nat.reduceLT, Nat.lt_irrefl, List.flatMap_cons, List.flatMap_nil, optAll, renL_eq, renL, renB_flat, renB_non, renV_bool, renV_int, renV_string, renV_nilFunc, renV_nilIface, renV_nilPtr, renV_ptr, renV_nilSl, renV_sl, renV_iface, renV_agg, renV_tuple, renV_func, renFn, idx_nil, idx_cons, idxC_t, idxC_f, Option.map_some, Option.map_none]) rfl rfl h (by simp [mergeB, renV_ptr, renV_tuple, dep, optAll, renB_non, renL, renV_sl, renV_map, renV_func, renV_int, renFn, fm_ren, renL_eq]) (by simp)
  · rw [if_neg h1] at h ⊢
    exact callH_lit (by intro _; first | trivial | rfl) (roots := [0]) rfl (ρ := [0]) (by simp only [reachP_cons, nblt, nbeq, mem_nil, mem_cons, memC_t, memC_f, reachQ_f, reachQ_t, Bool.or_false, Bool.or_true, Bool.false_or, Bool.true_or, decide_false, decide_true, Nat.not_lt_zero, rootsB, List.getElem?_cons_succ, List.getElem?_cons_zero, ptrB_non, ptrB_flat, ptrL_eq, ptrL, ptrV_bool, ptrV_int, ptrV_string, ptrV_nilFunc, ptrV_nilIface, ptrV_nilPtr, ptrV_nilSl, ptrV_iface, ptrV_agg, ptrV_tuple, ptrV_func, ptrV_ptr, ptrV_sl, dep, ptrFn, List.nil_append, List.cons_append, List.append_nil, reach_nil, reachN, Nat.reduceEqDiff, Nat.reduceAdd, Nat.reduceSub, reduceCtorEq, Nat.reduceLT, Nat.lt_irrefl, List.flatMap_cons, List.flatMap_nil, optAll, renL_eq, renL, renB_flat, renB_non, renV_bool, renV_int, renV_string, renV_nilFunc, renV_nilIface, renV_nilPtr, renV_ptr, renV_nilSl, renV_sl, renV_iface, renV_agg, renV_tuple, renV_func, renFn, idx_nil, idx_cons, idxC_t, idxC_f, Option.map_some, Option.map_none]) rfl rfl h (by simp [mergeB, renV_nilPtr, renV_tuple, dep, optAll, renL, renV_int, renL_eq]) (by simp)
end
end Go.Proofs.Ytfccmddkblbeoaa.rk
namespace Go.Proofs.Ytfccmddkblbeoaa.rk
open Go.GE
set_option linter.unusedVariables false
set_option linter.unusedSimpArgs false
set_option linter.unusedSectionVars false
set_option maxRecDepth 100000
set_option maxHeartbeats 4000000
theorem wrap_nn {n : Nat} (h : n < 2 ^ 63) : IntKind.i64.wrap (n : Int) = n := wrap_i64_id (by omega) (by omega)
theorem bin_ori {P : Program} {t : TypeId} {c : Bool} {w v : Nat} (h : w < 2 ^ 63) (h' : v < 2 ^ 63) : binA P .or t c (.int .i64 (w : Int)) (.int .i64 (v : Int)) = some (.int .i64 ((w ||| v : Nat) : Int)) := by
  have hl : w ||| v < 2 ^ 63 := Nat.or_lt_two_pow h h'
  have e : (BitVec.ofInt 64 (w : Int) ||| BitVec.ofInt 64 (v : Int)).toNat = w ||| v := by
    rw [BitVec.ofInt_natCast, BitVec.ofInt_natCast, BitVec.toNat_or, BitVec.toNat_ofNat, BitVec.toNat_ofNat, Nat.mod_eq_of_lt (by omega), Nat.mod_eq_of_lt (by omega)]
  have e' : IntKind.i64.wrap ((BitVec.ofInt 64 (w : Int) ||| BitVec.ofInt 64 (v : Int)).toNat : Int) = ((w ||| v : Nat) : Int) := by rw [e]; exact wrap_nn hl
  show some (Value.int .i64 (IntKind.i64.wrap ((BitVec.ofInt 64 (w : Int) ||| BitVec.ofInt 64 (v : Int)).toNat : Int))) = _
  rw [e']
theorem shl_powi {J : Nat} (hJ : J < 63) : IntKind.i64.wrap (2 ^ min J IntKind.i64.bits) = ((2 ^ J : Nat) : Int) := by
  rw [show min J IntKind.i64.bits = J from Nat.min_eq_left (by have : IntKind.i64.bits = 64 := rfl; omega), show ((2 : Int) ^ J) = ((2 ^ J : Nat) : Int) by simp]
  exact wrap_nn (Nat.pow_lt_pow_right (by decide) hJ)
end Go.Proofs.Ytfccmddkblbeoaa.rk
namespace Go.Proofs.Ytfccmddkblbeoaa.rk
open Go.GE
set_option linter.unusedVariables false
set_option linter.unusedSimpArgs false
set_option linter.unusedSectionVars false
set_option maxRecDepth 100000
set_option maxHeartbeats 4000000
/-- the number of ways in which a set goes on -/
def gR (nx : Nat → Nat → Bool) (n : Nat) (x : Nat) : Nat := cR nx n (cntU n x) x
end Go.Proofs.Ytfccmddkblbeoaa.rk
namespace Go.Proofs.Ytfccmddkblbeoaa.rk
open Go.GE
set_option linter.unusedVariables false
set_option linter.unusedSimpArgs false
set_option linter.unusedSectionVars false
set_option maxRecDepth 100000
set_option maxHeartbeats 4000000
def fN (nx : Nat → Nat → Bool) (n M : Nat) (i : Nat) : Nat := cond (nx M i) (gR nx n (M ||| 2 ^ i)) 0
end Go.Proofs.Ytfccmddkblbeoaa.rk
namespace Go.Proofs.Ytfccmddkblbeoaa.rk
open Go.GE
set_option linter.unusedVariables false
set_option linter.unusedSimpArgs false
set_option linter.unusedSectionVars false
set_option maxRecDepth 100000
set_option maxHeartbeats 4000000
theorem cS_add {f : Nat → Nat} : ∀ k i a, cS f k i a = a + cS f k i 0 := by
  intro k
  induction k with
  | zero => intro i a; simp [cS]
  | succ k ih => intro i a; simp only [cS]; rw [ih (i + 1) (a + f i), ih (i + 1) (0 + f i)]; omega
theorem cS_congr {f g : Nat → Nat} : ∀ k i a, (∀ j, i ≤ j → j < i + k → f j = g j) → cS f k i a = cS g k i a := by
  intro k
  induction k with
  | zero => intro i a _; rfl
  | succ k ih =>
    intro i a h
    simp only [cS]
    rw [h i (by omega) (by omega)]
    exact ih _ _ fun j h1 h2 => h j (by omega) (by omega)
theorem gR_sum {nx : Nat → Nat → Bool} (hnx : ∀ M i, nx M i = true → M.testBit i = false) {n M q : Nat} (h : cntU n M = q + 1) : gR nx n M = cS (fN nx n M) n 0 0 := by
  have e : gR nx n M = cS (cF nx n q M) n 0 0 := by unfold gR; rw [h]; rfl
  rw [e]
  refine cS_congr n 0 0 fun j _ hj => ?_
  unfold cF fN
  cases hx : nx M j
  · rfl
  · have := cntU_lt (hnx M j hx) n (by omega)
    simp only [cond_true]
    unfold gR
    rw [show cntU n (M ||| 2 ^ j) = q by omega]
theorem nxB_bit {l : Nat → Int × Int} {n M i : Nat} (h : nxB l n M i = true) : M.testBit i = false := by
  unfold nxB at h
  simp only [Bool.and_eq_true, Bool.not_eq_true'] at h
  exact h.1
section
variable (off n c : Nat) {cs : List Value} {own : Bool} {l : Nat → Int × Int}
abbrev LA (cs : List Value) (own : Bool) (es eb : List (Nat × Nat)) (rest : List Blk) : List Blk := .cells cs 2 true own :: .cells [sl 0 off n c, pp 2, pp 7] 1 false true :: .cells [.map (some 3), .func (.func 80) #[] #[pp 4, pp 5, pp 6]] 1 false true :: fmB es ::
  .cells [sl 0 off n c] 1 false true :: mayB :: .cells [pp 1] 1 false true :: .cells [.map (some 8), .func (.func 81) #[] #[pp 4, pp 6]] 1 false true :: fmB eb :: rest
end
end Go.Proofs.Ytfccmddkblbeoaa.rk
namespace Go.Proofs.Ytfccmddkblbeoaa.rk
open Go.GE
set_option linter.unusedVariables false
set_option linter.unusedSimpArgs false
set_option linter.unusedSectionVars false
set_option maxRecDepth 100000
set_option maxHeartbeats 4000000
attribute [local simp] runOps_nil runOps_cons runOpsF_nil runOpsF_cons fstS_some fstF_some opStep_eq want_none oStep_true oStep_false fin_pure fin_read fin_alloc fin_write storeB wrN cellV addWr o_move o_assign o_pick o_alloc o_box o_load o_store o_nilCheck o_bin o_un o_extract o_callV o_callB o_callI callV_f callV_y callV_fc o_makeFunc partsA Instr.fill builtin_len builtin_max2 bin_add bin_sub bin_mul bin_quo bin_rem bin_lss bin_leq bin_gtr bin_geq bin_eql bin_neq un_neg un_not bin_shr bin_shl wrap_u64_id opd opds optAll putO nbeq nblt constOk isC ops sub cl cr co bodyOf thenS_normal thenS_ret thenS_exit thenS_goto afterN_normal afterN_ret afterN_exit afterN_goto condS_true condS_false blockS_normal blockS_ret blockS_exit blockS_goto headS normS normK_eq fixS_nil fixS_cons fix1 fixV emptyB keepO_nil keepO_cons roundC_normal roundC_exit roundC_ret roundC_goto sweep_eq sweepD rnm pickR pickW rootsB ptrT renT ptrFn renFn ptrB_flat ptrB_non renB_flat renB_non plainS_some drawS_some fpsOk disj unord range' dropTo enumT undef wrap_i64_id Value.cells mkCells ptrTo scal cellsAt rdN endS_ret resultsA Option.bind_some tupV finish reachN dep ptrL_eq ptrL renL_eq renL ptrV_bool ptrV_int ptrV_string ptrV_nilFunc ptrV_nilIface ptrV_nilPtr ptrV_ptr ptrV_nilSl ptrV_sl ptrV_iface ptrV_agg ptrV_tuple ptrV_func renV_bool renV_int renV_string renV_nilFunc renV_nilIface renV_nilPtr renV_ptr renV_nilSl renV_sl renV_iface renV_agg renV_tuple renV_func gotoS_goto gotoS_normal gotoS_exit gotoS_ret skip_seq sliceE bnd bndHi intOf optOpd keepT_nil keepT_cons keepC_t keepC_f lk_nil lk_cons lkC_t lkC_f has_nil has_cons hasC_t hasC_f rep_nil rep_cons repC_t repC_f put_eq putC_t putC_f mem_nil mem_cons memC_t memC_f idx_nil idx_cons idxC_t idxC_f reach_nil reachP_cons reachQ_t reachQ_f ptrB_dead renB_dead ins_eq
attribute [local simp] n81_1s n81_3s n81_6s n81_10s n81_13s n81_14s n81_12s n81_18s n81_20s n81_22s n81_24s n81_25s n81_23s n81_21s n81_19s n81_17s n81_16s n81_26s n81_15s n81_11s n81_9s n81_8s n81_8g n81_7s n81_5s n81_28s n81_29s n81_27s n81_4s n81_2s n81_0s Try.f81
/-- a set without a day -/
def adn (M j : Nat) : Nat := M &&& (2 ^ 32 - (2 ^ j + 1))
theorem adn_bit {M j i : Nat} (hj : j < 32) (hM : M < 2 ^ 32) : (adn M j).testBit i = (M.testBit i && !decide (j = i)) := by
  unfold adn
  rw [Nat.testBit_and, Nat.testBit_two_pow_sub_succ (Nat.pow_lt_pow_right (by decide) hj), Nat.testBit_two_pow]
  by_cases hi : i < 32
  · simp [hi]
  · rw [Nat.testBit_lt_two_pow (Nat.lt_of_lt_of_le hM (Nat.pow_le_pow_right (by decide) (by omega)))]; simp
theorem adn_le {M j : Nat} : adn M j ≤ M := Nat.and_le_left
theorem adn_or {M j : Nat} (hj : j < 32) (hM : M < 2 ^ 32) (h : M.testBit j = true) : adn M j ||| 2 ^ j = M := by
  apply Nat.eq_of_testBit_eq
  intro i
  rw [bit_or, adn_bit hj hM]
  by_cases hij : j = i
  · subst hij; simp [h]
  · simp [hij]
theorem adn_off {M j : Nat} (hj : j < 32) (hM : M < 2 ^ 32) : (adn M j).testBit j = false := by rw [adn_bit hj hM]; simp
theorem bin_andnw {P : Program} {t : TypeId} {c : Bool} {w j : Nat} (h : w < 2 ^ 32) (hj : j < 32) : binA P .andNot t c (.int .u32 (w : Int)) (.int .u32 ((2 ^ j : Nat) : Int)) = some (.int .u32 ((adn w j : Nat) : Int)) := by
  have hp : 2 ^ j < 2 ^ 32 := Nat.pow_lt_pow_right (by decide) hj
  have hl : adn w j < 2 ^ 32 := Nat.lt_of_le_of_lt adn_le h
  have e : (BitVec.ofInt 32 (w : Int) &&& ~~~ BitVec.ofInt 32 ((2 ^ j : Nat) : Int)).toNat = adn w j := by
    rw [BitVec.ofInt_natCast, BitVec.ofInt_natCast, BitVec.toNat_and, BitVec.toNat_not, BitVec.toNat_ofNat, BitVec.toNat_ofNat, Nat.mod_eq_of_lt h, Nat.mod_eq_of_lt hp]
    unfold adn
    congr 1
    omega
  have e' : IntKind.u32.wrap ((BitVec.ofInt 32 (w : Int) &&& ~~~ BitVec.ofInt 32 ((2 ^ j : Nat) : Int)).toNat : Int) = ((adn w j : Nat) : Int) := by rw [e]; exact wrap_u32 hl
  show some (Value.int .u32 (IntKind.u32.wrap ((BitVec.ofInt 32 (w : Int) &&& ~~~ BitVec.ofInt 32 ((2 ^ j : Nat) : Int)).toNat : Int))) = _
  rw [e']
def cB (nx : Nat → Nat → Bool) (n : Nat) : Nat → Nat → Nat
  | 0, _ => 1
  | k + 1, M => cS (fun i => cond (M.testBit i && nx (adn M i) i) (cB nx n k (adn M i)) 0) n 0 0
def bF (nx : Nat → Nat → Bool) (n k M : Nat) : Nat → Nat := fun i => cond (M.testBit i && nx (adn M i) i) (cB nx n k (adn M i)) 0
def gB (nx : Nat → Nat → Bool) (n M : Nat) : Nat := cB nx n (n - cntU n M) M
theorem cB_le {nx : Nat → Nat → Bool} {n : Nat} : ∀ k M, cB nx n k M ≤ n ^ k := by
  intro k
  induction k with
  | zero => intro M; simp [cB]
  | succ k ih =>
    intro M
    have := cS_le (f := bF nx n k M) (B := n ^ k) (fun i => by
      unfold bF
      cases (M.testBit i && nx (adn M i) i)
      · exact Nat.zero_le _
      · exact ih _) n 0 0
    simp only [cB]
    rw [Nat.pow_succ, Nat.mul_comm]
    unfold bF at this
    omega
theorem cntU_full {M : Nat} : ∀ n, cntU n M = n → ∀ i, i < n → M.testBit i = false := by
  intro n
  induction n with
  | zero => intro _ i hi; omega
  | succ n ih =>
    intro h i hi
    have hl := cntU_le (n := n) (M := M)
    simp only [cntU] at h
    cases hb : M.testBit n
    · rw [hb] at h
      simp only [Bool.false_eq_true, if_false] at h
      by_cases e : i = n
      · subst e; exact hb
      · exact ih (by omega) i (by omega)
    · rw [hb] at h
      simp at h
      omega
theorem none_bits {n M : Nat} (hM : M < 2 ^ n) (h : cntU n M = n) : M = 0 := by
  apply Nat.eq_of_testBit_eq
  intro i
  rw [Nat.zero_testBit]
  by_cases hi : i < n
  · exact cntU_full n h i hi
  · exact Nat.testBit_lt_two_pow (Nat.lt_of_lt_of_le hM (Nat.pow_le_pow_right (by decide) (by omega)))
theorem cntU_adn {n M j : Nat} (hj : j < n) (hn : n ≤ 12) (hM : M < 2 ^ 32) (h : M.testBit j = true) : cntU n (adn M j) = cntU n M + 1 := by
  have := cntU_lt (adn_off (show j < 32 by omega) hM) n hj
  rw [adn_or (by omega) hM h] at this
  omega
def InvB (nx : Nat → Nat → Bool) (n : Nat) (eb : List (Nat × Nat)) : Prop := (∀ p, p ∈ eb → p.1 < 2 ^ n ∧ p.2 = gB nx n p.1) ∧ ∃ p, p ∈ eb ∧ p.1 = 0
theorem InvB.upd {nx : Nat → Nat → Bool} {n : Nat} {eb : List (Nat × Nat)} (h : InvB nx n eb) {M : Nat} (hM : M < 2 ^ n) : InvB nx n (updE eb M (gB nx n M)) := by
  refine ⟨fun p hp => ?_, updE_key h.2⟩
  rcases updE_mem hp with hp | rfl
  · exact h.1 p hp
  · exact ⟨hM, rfl⟩
theorem invB0 {nx : Nat → Nat → Bool} {n : Nat} : InvB nx n [(0, 1)] := by
  refine ⟨fun p hp => ?_, (0, 1), by simp, rfl⟩
  simp only [List.mem_singleton] at hp
  subst hp
  refine ⟨Nat.two_pow_pos n, ?_⟩
  simp only [gB, cntU_zero, Nat.sub_self, cB]
section
variable (off n c : Nat) (cs : List Value) (own : Bool)
abbrev HB0 (es eb : List (Nat × Nat)) : List Blk := [.cells [.map (some 1), .func (.func 81) #[] #[pp 2, pp 4]] 1 false true, fmB eb, .cells [sl 3 off n c] 1 false true, .cells cs 2 true own, .cells [pp 5] 1 false true,
  .cells [sl 3 off n c, pp 6, pp 0] 1 false true, .cells [.map (some 7), .func (.func 80) #[] #[pp 2, pp 8, pp 4]] 1 false true, fmB es, mayB]
abbrev HBC (es eb : List (Nat × Nat)) : List Blk := [.cells [sl 1 off n c] 1 false true, .cells cs 2 true own, .cells [pp 3] 1 false true, .cells [sl 1 off n c, pp 4, pp 7] 1 false true,
  .cells [.map (some 5), .func (.func 80) #[] #[pp 0, pp 6, pp 2]] 1 false true, fmB es, mayB, .cells [.map (some 8), .func (.func 81) #[] #[pp 0, pp 2]] 1 false true, fmB eb]
theorem rchBC (es eb : List (Nat × Nat)) : reach (HBC off n c cs own es eb) 0 reachN [7] [] = [7, 8, 0, 1, 2, 3, 4, 5, 6] := by
  simp only [reachP_cons, nblt, nbeq, mem_nil, mem_cons, memC_t, memC_f, reachQ_f, reachQ_t, Bool.or_false, Bool.or_true, Bool.false_or, Bool.true_or, decide_false, decide_true, Nat.not_lt_zero, rootsB, List.getElem?_cons_succ, List.getElem?_cons_zero, ptrB_non, ptrB_flat, ptrL_eq, ptrL, ptrV_bool, ptrV_int, ptrV_string, ptrV_nilFunc, ptrV_nilIface, ptrV_nilPtr, ptrV_nilSl, ptrV_iface, ptrV_agg, ptrV_tuple, ptrV_func, ptrV_ptr, ptrV_sl, dep, ptrFn, List.nil_append, List.cons_append, List.append_nil, reach_nil, reachN, Nat.reduceEqDiff, Nat.reduceAdd, Nat.reduceSub, reduceCtorEq, Nat.reduceLT, Nat.lt_irrefl, List.flatMap_cons, List.flatMap_nil, optAll, renL_eq, renL, renB_flat, renB_non, renV_bool, renV_int, renV_string, renV_nilFunc, renV_nilIface, renV_nilPtr, renV_ptr, renV_nilSl, renV_sl, renV_iface, renV_agg, renV_tuple, renV_func, renFn, idx_nil, idx_cons, idxC_t, idxC_f, Option.map_some, Option.map_none, fm_ptr, ptrV_map]
theorem pickBC (es eb : List (Nat × Nat)) : optAll (pickB (HBC off n c cs own es eb) (idx [7, 8, 0, 1, 2, 3, 4, 5, 6])) [7, 8, 0, 1, 2, 3, 4, 5, 6] = some (HB0 off n c cs own es eb) := by
  simp (maxSteps := 1000000) (disch := first | omega | decide | assumption | simp [scal]) [pickB, renV_map, fm_ren]
theorem rchB0 (es eb : List (Nat × Nat)) : reach (HB0 off n c cs own es eb) 0 reachN [2, 4] [] = [2, 3, 4, 5, 6, 7, 8, 0, 1] := by
  simp only [reachP_cons, nblt, nbeq, mem_nil, mem_cons, memC_t, memC_f, reachQ_f, reachQ_t, Bool.or_false, Bool.or_true, Bool.false_or, Bool.true_or, decide_false, decide_true, Nat.not_lt_zero, rootsB, List.getElem?_cons_succ, List.getElem?_cons_zero, ptrB_non, ptrB_flat, ptrL_eq, ptrL, ptrV_bool, ptrV_int, ptrV_string, ptrV_nilFunc, ptrV_nilIface, ptrV_nilPtr, ptrV_nilSl, ptrV_iface, ptrV_agg, ptrV_tuple, ptrV_func, ptrV_ptr, ptrV_sl, dep, ptrFn, List.nil_append, List.cons_append, List.append_nil, reach_nil, reachN, Nat.reduceEqDiff, Nat.reduceAdd, Nat.reduceSub, reduceCtorEq, Nat.reduceLT, Nat.lt_irrefl, List.flatMap_cons, List.flatMap_nil, optAll, renL_eq, renL, renB_flat, renB_non, renV_bool, renV_int, renV_string, renV_nilFunc, renV_nilIface, renV_nilPtr, renV_ptr, renV_nilSl, renV_sl, renV_iface, renV_agg, renV_tuple, renV_func, renFn, idx_nil, idx_cons, idxC_t, idxC_f, Option.map_some, Option.map_none, fm_ptr, ptrV_map]
theorem pickB0 (es eb : List (Nat × Nat)) : optAll (pickB (HB0 off n c cs own es eb) (idx [2, 3, 4, 5, 6, 7, 8, 0, 1])) [2, 3, 4, 5, 6, 7, 8, 0, 1] = some (HBC off n c cs own es eb) := by
  simp (maxSteps := 1000000) (disch := first | omega | decide | assumption | simp [scal]) [pickB, renV_map, fm_ren]
theorem callB0 {es eb eb' : List (Nat × Nat)} {M v : Nat} {ws : List (Nat × Blk)} (h : LL.run 60 [pp 0, wv M] (HB0 off n c cs own es eb) = some ⟨iv v, [], ws⟩) (hw : (ws = [] ∧ eb' = eb) ∨ ws = [(1, fmB eb')]) :
    ∃ wr, ((wr = [] ∧ eb' = eb) ∨ wr = [8]) ∧ callH LL 60 [pp 7, wv M] (HBC off n c cs own es eb) = some ⟨iv v, HBC off n c cs own es eb', [7, 8, 0, 1, 2, 3, 4, 5, 6], wr⟩ := by
  rcases hw with ⟨rfl, rfl⟩ | rfl
  · exact ⟨[], .inl ⟨rfl, rfl⟩, callH_lit (by intro _; first | trivial | rfl) rfl (rchBC ..) rfl (pickBC ..) h (by simp [mergeB, renV_int, dep, optAll]) (by simp)⟩
  · exact ⟨[8], .inr rfl, callH_lit (by intro _; first | trivial | rfl) rfl (rchBC ..) rfl (pickBC ..) h (by simp [mergeB, renV_int, dep, optAll, fm_ren]) (by simp)⟩
end
section
variable (off n c : Nat) {cs : List Value} {own : Bool} {l : Nat → Int × Int}
def GetBOK (nx : Nat → Nat → Bool) (HH : List (Nat × Nat) → List (Nat × Nat) → List Blk) (n k : Nat) (es : List (Nat × Nat)) : Prop := ∀ eb M, InvB nx n eb → M < 2 ^ n → cntU n M + k = n →
  ∃ eb' ws, InvB nx n eb' ∧ ((ws = [] ∧ eb' = eb) ∨ ws = [(1, fmB eb')]) ∧ LL.run 60 [pp 0, wv M] (HH es eb) = some ⟨iv (cB nx n k M : Nat), [], ws⟩
theorem l81 (hc : SpC cs off n l) (hn : n ≤ 12) (es : List (Nat × Nat)) (k : Nat) (hget : GetBOK (nxB l n) (HB0 off n c cs own) n k es) (M : Nat) (hM : M < 2 ^ n) (hk : cntU n M + (k + 1) = n) :
    ∀ (q j a : Nat) (eb : List (Nat × Nat)) (wr : List Nat), j + q = n → InvB (nxB l n) n eb → (wr = [] ∨ wr = [8]) → a + q * n ^ k ≤ 1000000000000000 →
    ∃ eb' wr', InvB (nxB l n) n eb' ∧ ((wr' = wr ∧ eb' = eb) ∨ wr' = [8]) ∧
      lpB Try.prog LL ⟨81, 36, 9, none⟩ n81_8 n81_9 ⟨[(0, wv M), (1, pp 0), (2, pp 2), (5, iv a), (9, iv n), (10, iv j)], HBC off n c cs own es eb, wr⟩ =
      some (.exit 0, ⟨[(5, iv (cS (bF (nxB l n) n k M) q j a : Nat))], HBC off n c cs own es eb', wr'⟩) := by
  have hM32 : M < 2 ^ 32 := Nat.lt_of_lt_of_le hM (Nat.pow_le_pow_right (by decide) (by omega))
  intro q
  induction q with
  | zero =>
    intro j a eb wr hj hi hw hb
    obtain rfl : j = n := by omega
    refine ⟨eb, wr, hi, .inl ⟨rfl, rfl⟩, ?_⟩
    simp only [cS]
    rw [lpB_eq]
    rcases hw with rfl | rfl
    · simp (maxSteps := 1000000) (disch := first | omega | decide | assumption | simp [scal]) [loadA_eq ia_78, lenA_sl lk_78, loadA_eq ia_85, o_fieldAddr fa_90_2 (by decide), loadA_eq ia_88, want_some q81_22g3, fm_ptr, fm_ren, ptrV_map, renV_map]
    · simp (maxSteps := 1000000) (disch := first | omega | decide | assumption | simp [scal]) [loadA_eq ia_78, lenA_sl lk_78, loadA_eq ia_85, o_fieldAddr fa_90_2 (by decide), loadA_eq ia_88, want_some q81_22g3, fm_ptr, fm_ren, ptrV_map, renV_map]
  | succ q ih =>
    intro j a eb wr hj hi hw hb
    have e0 : j < n := by omega
    have e1 : (j : Int) < n := by omega
    have h2 : adn M j < 2 ^ n := Nat.lt_of_le_of_lt adn_le hM
    have h232 : adn M j < 2 ^ 32 := Nat.lt_of_le_of_lt adn_le hM32
    have a1 := fun b0 bx => k53 1 off n c (h := b0 :: .cells cs 2 true own :: bx) rfl hc (by omega) (adn M j) j h232 e0
    have a2 := k71 M j hM32 (by omega)
    have s1 := shl_poww (J := j) (by omega)
    have s2 := fun cc => @bin_andnw Try.prog 77 cc M j hM32 (by omega)
    rw [Nat.add_mul] at hb
    cases hh : (M.testBit j && nxB l n (adn M j) j)
    · have hf : bF (nxB l n) n k M j = 0 := by simp only [bF, hh, cond_false]
      obtain ⟨eb', wr', i1, i2, i3⟩ := ih (j + 1) (a + 0) eb wr (by omega) hi hw (by omega)
      refine ⟨eb', wr', i1, i2, ?_⟩
      simp only [cS, hf]
      simp only [cast1, Nat.add_zero] at i3 ⊢
      generalize cS (bF (nxB l n) n k M) q (j + 1) a = Z at *
      clear ih hget hf
      generalize nxB l n (adn M j) j = y at *
      generalize M.testBit j = x at *
      generalize adn M j = M2 at *
      generalize ((2 ^ j : Nat) : Int) = J2 at *
      rw [lpB_eq]
      cases x <;> cases y <;> (try (simp at hh; done)) <;> rcases hw with rfl | rfl
      · simp (maxSteps := 1000000) (disch := first | omega | decide | assumption | simp [scal]) [loadA_eq ia_78, lenA_sl lk_78, loadA_eq ia_85, o_fieldAddr fa_90_2 (by decide), loadA_eq ia_88, want_some q81_22g3, e0, e1, a1, a2, s1, s2, fm_ptr, fm_ren, ptrV_map, renV_map, i3]
      · simp (maxSteps := 1000000) (disch := first | omega | decide | assumption | simp [scal]) [loadA_eq ia_78, lenA_sl lk_78, loadA_eq ia_85, o_fieldAddr fa_90_2 (by decide), loadA_eq ia_88, want_some q81_22g3, e0, e1, a1, a2, s1, s2, fm_ptr, fm_ren, ptrV_map, renV_map, i3]
      · simp (maxSteps := 1000000) (disch := first | omega | decide | assumption | simp [scal]) [loadA_eq ia_78, lenA_sl lk_78, loadA_eq ia_85, o_fieldAddr fa_90_2 (by decide), loadA_eq ia_88, want_some q81_22g3, e0, e1, a1, a2, s1, s2, fm_ptr, fm_ren, ptrV_map, renV_map, i3]
      · simp (maxSteps := 1000000) (disch := first | omega | decide | assumption | simp [scal]) [loadA_eq ia_78, lenA_sl lk_78, loadA_eq ia_85, o_fieldAddr fa_90_2 (by decide), loadA_eq ia_88, want_some q81_22g3, e0, e1, a1, a2, s1, s2, fm_ptr, fm_ren, ptrV_map, renV_map, i3]
      · simp (maxSteps := 1000000) (disch := first | omega | decide | assumption | simp [scal]) [loadA_eq ia_78, lenA_sl lk_78, loadA_eq ia_85, o_fieldAddr fa_90_2 (by decide), loadA_eq ia_88, want_some q81_22g3, e0, e1, a1, a2, s1, s2, fm_ptr, fm_ren, ptrV_map, renV_map, i3]
      · simp (maxSteps := 1000000) (disch := first | omega | decide | assumption | simp [scal]) [loadA_eq ia_78, lenA_sl lk_78, loadA_eq ia_85, o_fieldAddr fa_90_2 (by decide), loadA_eq ia_88, want_some q81_22g3, e0, e1, a1, a2, s1, s2, fm_ptr, fm_ren, ptrV_map, renV_map, i3]
    · have hf : bF (nxB l n) n k M j = cB (nxB l n) n k (adn M j) := by simp only [bF, hh, cond_true]
      rw [Bool.and_eq_true] at hh
      obtain ⟨hx, hy⟩ := hh
      rw [hy] at a1
      rw [hx] at a2
      have hcn := cntU_adn e0 hn hM32 hx
      obtain ⟨eb1, ws, g1, g2, g3⟩ := hget eb (adn M j) hi h2 (by omega)
      obtain ⟨wr1, g4, g5⟩ := callB0 off n c cs own g3 g2
      have hv : cB (nxB l n) n k (adn M j) ≤ n ^ k := cB_le _ _
      simp only [cS, hf]
      generalize cB (nxB l n) n k (adn M j) = v at *
      generalize adn M j = M2 at *
      clear g3 hf h2 hcn
      have hwrap : IntKind.i64.wrap ((a : Int) + (v : Int)) = ((a + v : Nat) : Int) := by rw [wrap_i64_id (by omega) (by omega)]; rfl
      have go : ∀ wr2, (wr2 = [] ∨ wr2 = [8]) → ((wr2 = wr ∧ eb1 = eb) ∨ wr2 = [8]) → _ := fun wr2 x y => ih (j + 1) (a + v) eb1 wr2 (by omega) g1 x (by omega)
      clear ih hget
      generalize ((2 ^ j : Nat) : Int) = J2 at *
      rcases g4 with ⟨rfl, rfl⟩ | rfl
      · obtain ⟨eb', wr', i1, i2, i3⟩ := go wr hw (.inl ⟨rfl, rfl⟩)
        refine ⟨eb', wr', i1, i2, ?_⟩
        simp only [cast1] at i3 ⊢
        generalize cS (bF (nxB l n) n k M) q (j + 1) (a + v) = Z at *
        generalize ((a + v : Nat) : Int) = av at *
        rw [lpB_eq]
        rcases hw with rfl | rfl
        · simp (maxSteps := 1000000) (disch := first | omega | decide | assumption | simp [scal]) [loadA_eq ia_78, lenA_sl lk_78, loadA_eq ia_85, o_fieldAddr fa_90_2 (by decide), loadA_eq ia_88, want_some q81_22g3, e0, e1, a1, a2, s1, s2, g5, hwrap, fm_ptr, fm_ren, ptrV_map, renV_map, i3]
        · simp (maxSteps := 1000000) (disch := first | omega | decide | assumption | simp [scal]) [loadA_eq ia_78, lenA_sl lk_78, loadA_eq ia_85, o_fieldAddr fa_90_2 (by decide), loadA_eq ia_88, want_some q81_22g3, e0, e1, a1, a2, s1, s2, g5, hwrap, fm_ptr, fm_ren, ptrV_map, renV_map, i3]
      · obtain ⟨eb', wr', i1, i2, i3⟩ := go [8] (.inr rfl) (.inr rfl)
        refine ⟨eb', wr', i1, .inr (by rcases i2 with ⟨h1, _⟩ | h1 <;> exact h1), ?_⟩
        simp only [cast1] at i3 ⊢
        generalize cS (bF (nxB l n) n k M) q (j + 1) (a + v) = Z at *
        generalize ((a + v : Nat) : Int) = av at *
        rw [lpB_eq]
        rcases hw with rfl | rfl
        · simp (maxSteps := 1000000) (disch := first | omega | decide | assumption | simp [scal]) [loadA_eq ia_78, lenA_sl lk_78, loadA_eq ia_85, o_fieldAddr fa_90_2 (by decide), loadA_eq ia_88, want_some q81_22g3, e0, e1, a1, a2, s1, s2, g5, hwrap, fm_ptr, fm_ren, ptrV_map, renV_map, i3]
        · simp (maxSteps := 1000000) (disch := first | omega | decide | assumption | simp [scal]) [loadA_eq ia_78, lenA_sl lk_78, loadA_eq ia_85, o_fieldAddr fa_90_2 (by decide), loadA_eq ia_88, want_some q81_22g3, e0, e1, a1, a2, s1, s2, g5, hwrap, fm_ptr, fm_ren, ptrV_map, renV_map, i3]
end
end Go.Proofs.Ytfccmddkblbeoaa.rk
namespace Go.Proofs.Ytfccmddkblbeoaa.rk
open Go.GE
set_option linter.unusedVariables false
set_option linter.unusedSimpArgs false
set_option linter.unusedSectionVars false
set_option maxRecDepth 100000
set_option maxHeartbeats 4000000
attribute [local simp] runOps_nil runOps_cons runOpsF_nil runOpsF_cons fstS_some fstF_some opStep_eq want_none oStep_true oStep_false fin_pure fin_read fin_alloc fin_write storeB wrN cellV addWr o_move o_assign o_pick o_alloc o_box o_load o_store o_nilCheck o_bin o_un o_extract o_callV o_callB o_callI callV_f callV_y callV_fc o_makeFunc partsA Instr.fill builtin_len builtin_max2 bin_add bin_sub bin_mul bin_quo bin_rem bin_lss bin_leq bin_gtr bin_geq bin_eql bin_neq un_neg un_not bin_shr bin_shl wrap_u64_id opd opds optAll putO nbeq nblt constOk isC ops sub cl cr co bodyOf thenS_normal thenS_ret thenS_exit thenS_goto afterN_normal afterN_ret afterN_exit afterN_goto condS_true condS_false blockS_normal blockS_ret blockS_exit blockS_goto headS normS normK_eq fixS_nil fixS_cons fix1 fixV emptyB keepO_nil keepO_cons roundC_normal roundC_exit roundC_ret roundC_goto sweep_eq sweepD rnm pickR pickW rootsB ptrT renT ptrFn renFn ptrB_flat ptrB_non renB_flat renB_non plainS_some drawS_some fpsOk disj unord range' dropTo enumT undef wrap_i64_id Value.cells mkCells ptrTo scal cellsAt rdN endS_ret resultsA Option.bind_some tupV finish reachN dep ptrL_eq ptrL renL_eq renL ptrV_bool ptrV_int ptrV_string ptrV_nilFunc ptrV_nilIface ptrV_nilPtr ptrV_ptr ptrV_nilSl ptrV_sl ptrV_iface ptrV_agg ptrV_tuple ptrV_func renV_bool renV_int renV_string renV_nilFunc renV_nilIface renV_nilPtr renV_ptr renV_nilSl renV_sl renV_iface renV_agg renV_tuple renV_func gotoS_goto gotoS_normal gotoS_exit gotoS_ret skip_seq sliceE bnd bndHi intOf optOpd keepT_nil keepT_cons keepC_t keepC_f lk_nil lk_cons lkC_t lkC_f has_nil has_cons hasC_t hasC_f rep_nil rep_cons repC_t repC_f put_eq putC_t putC_f mem_nil mem_cons memC_t memC_f idx_nil idx_cons idxC_t idxC_f reach_nil reachP_cons reachQ_t reachQ_f ptrB_dead renB_dead ins_eq
attribute [local simp] n81_1s n81_3s n81_6s n81_10s n81_13s n81_14s n81_12s n81_18s n81_20s n81_22s n81_24s n81_25s n81_23s n81_21s n81_19s n81_17s n81_16s n81_26s n81_15s n81_11s n81_9s n81_8s n81_8g n81_7s n81_5s n81_28s n81_29s n81_27s n81_4s n81_2s n81_0s Try.f81 n60_1s n60_3s n60_6s n60_9s n60_10s n60_8s n60_11s n60_7s n60_5s n60_13s n60_14s n60_12s n60_4s n60_2s n60_0s Try.f60
section
variable (off n c : Nat) {cs : List Value} {own : Bool} {l : Nat → Int × Int}
theorem c81 (hc : SpC cs off n l) (hn : n ≤ 12) (es : List (Nat × Nat)) (k : Nat) (hget : GetBOK (nxB l n) (HB0 off n c cs own) n k es) (M : Nat) (hM : M < 2 ^ n) (hk : cntU n M + (k + 1) = n) (eb : List (Nat × Nat)) (hi : InvB (nxB l n) n eb) :
    ∃ eb' wr, InvB (nxB l n) n eb' ∧ ((wr = [] ∧ eb' = eb) ∨ wr = [1]) ∧ callH LL 81 [wv M, pp 2, pp 4] (HB0 off n c cs own es eb) = some ⟨iv (cB (nxB l n) n (k + 1) M : Nat), HB0 off n c cs own es eb', [2, 3, 4, 5, 6, 7, 8, 0, 1], wr⟩ := by
  have hp := pow_le12 hn (show k ≤ 12 by omega)
  have hnp : n * n ^ k ≤ 12 * 8916100448256 := Nat.mul_le_mul hn hp
  obtain ⟨eb', wr', i1, i2, i3⟩ := l81 off n c (own := own) hc hn es k hget M hM hk n 0 0 eb [] (by omega) hi (.inl rfl) (by omega)
  have hrun : LL.run 81 [wv M, pp 0, pp 2] (HBC off n c cs own es eb) = some ⟨iv (cB (nxB l n) n (k + 1) M : Nat), [], wr'.map fun b => (b, fmB eb')⟩ := by
    refine go (by decide) ?_
    rw [run81 _ _ _ (by simp)]
    have hR : cB (nxB l n) n (k + 1) M = cS (bF (nxB l n) n k M) n 0 0 := rfl
    rw [hR]
    generalize cS (bF (nxB l n) n k M) n 0 0 = Z at *
    clear hget
    simp only [Int.natCast_zero] at i3
    rcases i2 with ⟨rfl, rfl⟩ | rfl
    · simp (maxSteps := 1000000) (disch := first | omega | decide | assumption | simp [scal]) [loadA_eq ia_78, lenA_sl lk_78, loadA_eq ia_85, o_fieldAddr fa_90_2 (by decide), loadA_eq ia_88, want_some q81_22g3, i3, fm_ptr, fm_ren, ptrV_map, renV_map]
    · simp (maxSteps := 1000000) (disch := first | omega | decide | assumption | simp [scal]) [loadA_eq ia_78, lenA_sl lk_78, loadA_eq ia_85, o_fieldAddr fa_90_2 (by decide), loadA_eq ia_88, want_some q81_22g3, i3, fm_ptr, fm_ren, ptrV_map, renV_map]
  rcases i2 with ⟨rfl, rfl⟩ | rfl
  · exact ⟨eb', [], i1, .inl ⟨rfl, rfl⟩, callH_lit (by intro _; first | trivial | rfl) rfl (rchB0 ..) rfl (pickB0 ..) hrun (by simp [mergeB, renV_int, dep, optAll]) (by simp)⟩
  · exact ⟨eb', [1], i1, .inr rfl, callH_lit (by intro _; first | trivial | rfl) rfl (rchB0 ..) rfl (pickB0 ..) hrun (by simp [mergeB, renV_int, dep, optAll, fm_ren]) (by simp)⟩
theorem getB_ok (hc : SpC cs off n l) (hn : n ≤ 12) (es : List (Nat × Nat)) : ∀ k, GetBOK (nxB l n) (HB0 off n c cs own) n k es := by
  have hit : ∀ (eb : List (Nat × Nat)) (M i v : Nat), M < 2 ^ n → findA (wv M) (mE eb) 0 = some (some (i, iv v)) → LL.run 60 [pp 0, wv M] (HB0 off n c cs own es eb) = some ⟨iv v, [], []⟩ := by
    intro eb M i v hM hf
    have fL : lookM (HB0 off n c cs own es eb) 1 M = some ⟨.tuple #[iv v, .bool true], HB0 off n c cs own es eb, [1], []⟩ := look_hit rfl hf
    refine go (by decide) ?_
    rw [run60 _ _ _ (by simp)]
    simp (maxSteps := 1000000) (disch := first | omega | decide | assumption | simp [scal]) [o_fieldAddr fa_110_0 (by decide), loadA_eq ia_108, o_fieldAddr fa_110_1 (by decide), loadA_eq ia_91, o_look, look108, fL, fm_ptr, fm_ren, ptrV_map, renV_map]
  intro k
  induction k with
  | zero =>
    intro eb M hi hM hk
    rcases findA_mE (M := M) eb 0 with ⟨i, v, h1, h2⟩ | ⟨_, h2⟩
    · have hv := (hi.1 (M, v) (List.mem_of_getElem? h2)).2
      simp only [gB, show n - cntU n M = 0 by omega] at hv
      rw [Nat.zero_add] at h1
      refine ⟨eb, [], hi, .inl ⟨rfl, rfl⟩, ?_⟩
      rw [← hv]
      exact hit eb M i v hM h1
    · obtain ⟨p, hp, he⟩ := hi.2
      exact absurd (he.trans (none_bits hM (by omega)).symm) (h2 p hp)
  | succ k ih =>
    intro eb M hi hM hk
    have hkk : n - cntU n M = k + 1 := by omega
    rcases findA_mE (M := M) eb 0 with ⟨i, v, h1, h2⟩ | ⟨h1, h2⟩
    · have hv := (hi.1 (M, v) (List.mem_of_getElem? h2)).2
      simp only [gB, hkk] at hv
      rw [Nat.zero_add] at h1
      refine ⟨eb, [], hi, .inl ⟨rfl, rfl⟩, ?_⟩
      rw [← hv]
      exact hit eb M i v hM h1
    · obtain ⟨eb', wr, i1, i2, i3⟩ := c81 off n c (own := own) hc hn es k ih M hM hk eb hi
      have hu := i1.upd hM
      unfold gB at hu
      rw [hkk] at hu
      refine ⟨_, [(1, fmB (updE eb' M (cB (nxB l n) n (k + 1) M)))], hu, .inr rfl, ?_⟩
      have fL : lookM (HB0 off n c cs own es eb) 1 M = some ⟨.tuple #[iv 0, .bool false], HB0 off n c cs own es eb, [1], []⟩ := look_miss rfl h1
      generalize cB (nxB l n) n (k + 1) M = Z at *
      have fU : updM (HB0 off n c cs own es eb') 1 M (iv Z) = some ⟨undef, HB0 off n c cs own es (updE eb' M Z), [1], [1]⟩ := upd_eq rfl
      clear ih hu hit
      refine go (by decide) ?_
      rw [run60 _ _ _ (by simp)]
      rcases i2 with ⟨rfl, rfl⟩ | rfl
      · simp (maxSteps := 1000000) (disch := first | omega | decide | assumption | simp [scal]) [o_fieldAddr fa_110_0 (by decide), loadA_eq ia_108, o_fieldAddr fa_110_1 (by decide), loadA_eq ia_91, o_look, look108, fL, o_mapU, upd108, fU, i3, callV_fc, fm_ptr, fm_ren, ptrV_map, renV_map]
      · simp (maxSteps := 1000000) (disch := first | omega | decide | assumption | simp [scal]) [o_fieldAddr fa_110_0 (by decide), loadA_eq ia_108, o_fieldAddr fa_110_1 (by decide), loadA_eq ia_91, o_look, look108, fL, o_mapU, upd108, fU, i3, callV_fc, fm_ptr, fm_ren, ptrV_map, renV_map]
/-- a counter, as it is handed to 'groups' -/
abbrev LG (cs : List Value) (own : Bool) (es eb : List (Nat × Nat)) (rest : List Blk) : List Blk := .cells [sl 1 off n c, pp 2, pp 7] 1 false true :: .cells cs 2 true own :: .cells [.map (some 3), .func (.func 80) #[] #[pp 4, pp 5, pp 6]] 1 false true :: fmB es ::
  .cells [sl 1 off n c] 1 false true :: mayB :: .cells [pp 0] 1 false true :: .cells [.map (some 8), .func (.func 81) #[] #[pp 4, pp 6]] 1 false true :: fmB eb :: rest
theorem rchGB (es eb : List (Nat × Nat)) (rest : List Blk) : reach (LG off n c cs own es eb rest) 0 reachN [7] [] = [7, 8, 4, 1, 6, 0, 2, 3, 5] := by
  simp only [reachP_cons, nblt, nbeq, mem_nil, mem_cons, memC_t, memC_f, reachQ_f, reachQ_t, Bool.or_false, Bool.or_true, Bool.false_or, Bool.true_or, decide_false, decide_true, Nat.not_lt_zero, rootsB, List.getElem?_cons_succ, List.getElem?_cons_zero, ptrB_non, ptrB_flat, ptrL_eq, ptrL, ptrV_bool, ptrV_int, ptrV_string, ptrV_nilFunc, ptrV_nilIface, ptrV_nilPtr, ptrV_nilSl, ptrV_iface, ptrV_agg, ptrV_tuple, ptrV_func, ptrV_ptr, ptrV_sl, dep, ptrFn, List.nil_append, List.cons_append, List.append_nil, reach_nil, reachN, Nat.reduceEqDiff, Nat.reduceAdd, Nat.reduceSub, reduceCtorEq, Nat.reduceLT, Nat.lt_irrefl, List.flatMap_cons, List.flatMap_nil, optAll, renL_eq, renL, renB_flat, renB_non, renV_bool, renV_int, renV_string, renV_nilFunc, renV_nilIface, renV_nilPtr, renV_ptr, renV_nilSl, renV_sl, renV_iface, renV_agg, renV_tuple, renV_func, renFn, idx_nil, idx_cons, idxC_t, idxC_f, Option.map_some, Option.map_none, fm_ptr, ptrV_map]
theorem pickGB (es eb : List (Nat × Nat)) (rest : List Blk) : optAll (pickB (LG off n c cs own es eb rest) (idx [7, 8, 4, 1, 6, 0, 2, 3, 5])) [7, 8, 4, 1, 6, 0, 2, 3, 5] = some (HB0 off n c cs own es eb) := by
  simp (maxSteps := 1000000) (disch := first | omega | decide | assumption | simp [scal]) [pickB, renV_map, fm_ren]
theorem askGB (hc : SpC cs off n l) (hn : n ≤ 12) (es eb : List (Nat × Nat)) (rest : List Blk) (M : Nat) (hi : InvB (nxB l n) n eb) (hM : M < 2 ^ n) : ∃ eb' wr, InvB (nxB l n) n eb' ∧ ((wr = [] ∧ eb' = eb) ∨ wr = [8]) ∧
    callH LL 60 [pp 7, wv M] (LG off n c cs own es eb rest) = some ⟨iv (gB (nxB l n) n M : Nat), LG off n c cs own es eb' rest, [7, 8, 4, 1, 6, 0, 2, 3, 5], wr⟩ := by
  obtain ⟨eb', ws, i1, i2, i3⟩ := getB_ok off n c (own := own) hc hn es (n - cntU n M) eb M hi hM (by have := cntU_le (n := n) (M := M); omega)
  rcases i2 with ⟨rfl, rfl⟩ | rfl
  · exact ⟨eb', [], i1, .inl ⟨rfl, rfl⟩, callH_lit (by intro _; first | trivial | rfl) rfl (rchGB ..) rfl (pickGB ..) i3 (by simp [mergeB, renV_int, dep, optAll, gB]) (by simp)⟩
  · exact ⟨eb', [8], i1, .inr rfl, callH_lit (by intro _; first | trivial | rfl) rfl (rchGB ..) rfl (pickGB ..) i3 (by simp [mergeB, renV_int, dep, optAll, fm_ren, gB]) (by simp)⟩
end
end Go.Proofs.Ytfccmddkblbeoaa.rk
namespace Go.Proofs.Ytfccmddkblbeoaa.rk
open Go.GE
set_option linter.unusedVariables false
set_option linter.unusedSimpArgs false
set_option linter.unusedSectionVars false
set_option maxRecDepth 100000
set_option maxHeartbeats 4000000
def szL : Nat → Nat → Nat
  | 0, _ => 0
  | f + 1, M => M % 2 + szL f (M / 2)
def sizeN (M : Nat) : Nat := szL 9 M
def allN (p : Nat → Bool) : Nat → Bool
  | 0 => true
  | n + 1 => cond (p n) (allN p n) false
theorem allN_spec {p : Nat → Bool} : ∀ n, allN p n = true → ∀ i, i < n → p i = true := by
  intro n
  induction n with
  | zero => intro _ i hi; omega
  | succ n ih =>
    intro h i hi
    simp only [allN] at h
    cases hp : p n
    · rw [hp] at h; cases h
    · rw [hp] at h
      by_cases e : i = n
      · subst e; exact hp
      · exact ih h i (by omega)
noncomputable def chk79 (M : Nat) : Bool := match runB Try.prog LL 79 [.int .u32 (M : Int)] [] with
  | some ⟨.int .i64 v, [], []⟩ => v == ((sizeN M : Nat) : Int)
  | _ => false
theorem chk79_ok : allN chk79 512 = true := by kernel_rfl
theorem k79 (M : Nat) (hM : M < 512) (h : List Blk) : callH LL 79 [wv M] h = some ⟨iv (sizeN M : Nat), h, [], []⟩ := by
  refine callH_plain (go (by decide) ?_) rfl rfl
  have := allN_spec 512 chk79_ok M hM
  unfold chk79 at this
  split at this
  · rename_i v e
    rw [show wv M = .int .u32 (M : Int) from rfl, e]
    have : v = ((sizeN M : Nat) : Int) := by simpa using this
    rw [this]
  · cases this
end Go.Proofs.Ytfccmddkblbeoaa.rk
namespace Go.Proofs.Ytfccmddkblbeoaa.rk
open Go.GE
set_option linter.unusedVariables false
set_option linter.unusedSimpArgs false
set_option linter.unusedSectionVars false
set_option maxRecDepth 100000
set_option maxHeartbeats 4000000
theorem gB_sum {nx : Nat → Nat → Bool} {n x : Nat} (hn : n ≤ 12) (hx : x < 2 ^ n) (h0 : x ≠ 0) : gB nx n x = cS (fun j => cond (x.testBit j && nx (adn x j) j) (gB nx n (adn x j)) 0) n 0 0 := by
  have hx32 : x < 2 ^ 32 := Nat.lt_of_lt_of_le hx (Nat.pow_le_pow_right (by decide) (by omega))
  have hle := cntU_le (n := n) (M := x)
  have hne : cntU n x ≠ n := fun h => h0 (none_bits hx h)
  obtain ⟨k, hk⟩ : ∃ k, n - cntU n x = k + 1 := ⟨n - cntU n x - 1, by omega⟩
  have e : gB nx n x = cS (bF nx n k x) n 0 0 := by unfold gB; rw [hk]; rfl
  rw [e]
  refine cS_congr n 0 0 fun j _ hj => ?_
  unfold bF
  cases hb : (x.testBit j && nx (adn x j) j)
  · rfl
  · rw [Bool.and_eq_true] at hb
    have := cntU_adn (n := n) (by omega) hn hx32 hb.1
    simp only [cond_true]
    unfold gB
    rw [show n - cntU n (adn x j) = k by omega]
end Go.Proofs.Ytfccmddkblbeoaa.rk
namespace Go.Proofs.Ytfccmddkblbeoaa.rk
open Go.GE
set_option linter.unusedVariables false
set_option linter.unusedSimpArgs false
set_option linter.unusedSectionVars false
set_option maxRecDepth 100000
set_option maxHeartbeats 4000000
attribute [local simp] runOps_nil runOps_cons runOpsF_nil runOpsF_cons fstS_some fstF_some opStep_eq want_none oStep_true oStep_false fin_pure fin_read fin_alloc fin_write storeB wrN cellV addWr o_move o_assign o_pick o_alloc o_box o_load o_store o_nilCheck o_bin o_un o_extract o_callV o_callB o_callI callV_f callV_y callV_fc o_makeFunc partsA Instr.fill builtin_len builtin_max2 bin_add bin_sub bin_mul bin_quo bin_rem bin_lss bin_leq bin_gtr bin_geq bin_eql bin_neq un_neg un_not bin_shr bin_shl wrap_u64_id opd opds optAll putO nbeq nblt constOk isC ops sub cl cr co bodyOf thenS_normal thenS_ret thenS_exit thenS_goto afterN_normal afterN_ret afterN_exit afterN_goto condS_true condS_false blockS_normal blockS_ret blockS_exit blockS_goto headS normS normK_eq fixS_nil fixS_cons fix1 fixV emptyB keepO_nil keepO_cons roundC_normal roundC_exit roundC_ret roundC_goto sweep_eq sweepD rnm pickR pickW rootsB ptrT renT ptrFn renFn ptrB_flat ptrB_non renB_flat renB_non plainS_some drawS_some fpsOk disj unord range' dropTo enumT undef wrap_i64_id Value.cells mkCells ptrTo scal cellsAt rdN endS_ret resultsA Option.bind_some tupV finish reachN dep ptrL_eq ptrL renL_eq renL ptrV_bool ptrV_int ptrV_string ptrV_nilFunc ptrV_nilIface ptrV_nilPtr ptrV_ptr ptrV_nilSl ptrV_sl ptrV_iface ptrV_agg ptrV_tuple ptrV_func renV_bool renV_int renV_string renV_nilFunc renV_nilIface renV_nilPtr renV_ptr renV_nilSl renV_sl renV_iface renV_agg renV_tuple renV_func gotoS_goto gotoS_normal gotoS_exit gotoS_ret skip_seq sliceE bnd bndHi intOf optOpd keepT_nil keepT_cons keepC_t keepC_f lk_nil lk_cons lkC_t lkC_f has_nil has_cons hasC_t hasC_f rep_nil rep_cons repC_t repC_f put_eq putC_t putC_f mem_nil mem_cons memC_t memC_f idx_nil idx_cons idxC_t idxC_f reach_nil reachP_cons reachQ_t reachQ_f ptrB_dead renB_dead ins_eq
attribute [local simp] n64_1s n64_3s n64_6s n64_10s n64_13s n64_14s n64_12s n64_18s n64_20s n64_22s n64_23s n64_21s n64_19s n64_17s n64_16s n64_24s n64_15s n64_11s n64_9s n64_8s n64_8g n64_7s n64_5s n64_26s n64_27s n64_25s n64_4s n64_2s n64_0s Try.f64
def wm (L : List Nat) : List Value := L.map fun x => wv x
abbrev wB (L : List Nat) : Blk := .cells (wm L) 1 true true
theorem wm_len {L : List Nat} : (wm L).length = L.length := by simp [wm]
theorem wm_app {L M : List Nat} : wm (L ++ M) = wm L ++ wm M := by simp [wm]
theorem wm_one {x : Nat} : wm [x] = [wv x] := rfl
theorem wm_nil : wm [] = [] := rfl
def inG (nx : Nat → Nat → Bool) (n : Nat) (K : Int) (s : Nat) : Bool := decide (((sizeN s : Nat) : Int) = K) && decide (0 < gB nx n s)
def grL (nx : Nat → Nat → Bool) (n : Nat) (K : Int) : Nat → Nat → List Nat
  | 0, _ => []
  | q + 1, s => if inG nx n K s = true then s :: grL nx n K q (s + 1) else grL nx n K q (s + 1)
theorem grL_mem {nx : Nat → Nat → Bool} {n : Nat} {K : Int} : ∀ q s x, x ∈ grL nx n K q s → s ≤ x ∧ x < s + q ∧ inG nx n K x = true := by
  intro q
  induction q with
  | zero => intro s x h; cases h
  | succ q ih =>
    intro s x h
    unfold grL at h
    split at h
    · rename_i hg
      rcases List.mem_cons.1 h with rfl | h
      · exact ⟨by omega, by omega, hg⟩
      · have := ih _ _ h; exact ⟨by omega, by omega, this.2.2⟩
    · have := ih _ _ h; exact ⟨by omega, by omega, this.2.2⟩
section
variable (off n c : Nat) {cs : List Value} {own : Bool} {l : Nat → Int × Int} (K : Int)
theorem l64 (hc : SpC cs off n l) (hn : n ≤ 9) (es : List (Nat × Nat)) : ∀ (q s : Nat) (O : List Nat) (eb : List (Nat × Nat)) (wr : List Nat), s + q = 2 ^ n → InvB (nxB l n) n eb → (wr = [] ∨ wr = [8]) → O.length ≤ s →
    ∃ eb' wr', InvB (nxB l n) n eb' ∧ ((wr' = wr ∧ eb' = eb) ∨ wr' = [8]) ∧
      lpB Try.prog LL ⟨64, 35, 9, none⟩ n64_8 n64_9 ⟨[(0, pp 0), (1, iv K), (5, sl 9 0 O.length O.length), (12, wv (2 ^ n)), (13, wv s)], LG off n c cs own es eb [wB O], wr⟩ =
      some (.exit 0, ⟨[(5, sl 9 0 (O ++ grL (nxB l n) n K q s).length (O ++ grL (nxB l n) n K q s).length)], LG off n c cs own es eb' [wB (O ++ grL (nxB l n) n K q s)], wr'⟩) := by
  have hN2 : 2 ^ n ≤ 512 := by have := Nat.pow_le_pow_right (n := 2) (by decide) hn; omega
  intro q
  induction q with
  | zero =>
    intro s O eb wr hs hi hw hO
    obtain rfl : s = 2 ^ n := by omega
    refine ⟨eb, wr, hi, .inl ⟨rfl, rfl⟩, ?_⟩
    simp only [grL, List.append_nil, wB]
    generalize wm O = Q at *
    generalize O.length = m at *
    generalize 2 ^ n = N at *
    rw [lpB_eq]
    rcases hw with rfl | rfl
    · simp (maxSteps := 1000000) (disch := first | omega | decide | assumption | simp [scal]) [o_fieldAddr fa_90_0 (by decide), loadA_eq ia_78, lenA_sl lk_78, o_fieldAddr fa_90_2 (by decide), loadA_eq ia_88, o_indexAddrS es_94, ze_94, o_buildSlice es_94 ze_94 (by decide) ba_94_1, ap_94, builtin_append ni_94, want_some q64_20g4, fm_ptr, fm_ren, ptrV_map, renV_map]
    · simp (maxSteps := 1000000) (disch := first | omega | decide | assumption | simp [scal]) [o_fieldAddr fa_90_0 (by decide), loadA_eq ia_78, lenA_sl lk_78, o_fieldAddr fa_90_2 (by decide), loadA_eq ia_88, o_indexAddrS es_94, ze_94, o_buildSlice es_94 ze_94 (by decide) ba_94_1, ap_94, builtin_append ni_94, want_some q64_20g4, fm_ptr, fm_ren, ptrV_map, renV_map]
  | succ q ih =>
    intro s O eb wr hs hi hw hO
    have e1 : (s : Int) < ((2 ^ n : Nat) : Int) := by omega
    have e0 : s < 2 ^ n := by omega
    have a1 := k79 s (by omega)
    have hws : IntKind.u32.wrap ((s : Int) + 1) = (s : Int) + 1 := wrap_u32 (n := s + 1) (by omega)
    have hwv : wv (s + 1) = .int .u32 ((s : Int) + 1) := rfl
    by_cases hK : ((sizeN s : Nat) : Int) = K
    · have hK' := eq_true hK
      obtain ⟨eb1, wr1, g1, g2, g3⟩ := askGB off n c (own := own) hc (by omega) es eb [wB O] s hi e0
      by_cases hg : 0 < gB (nxB l n) n s
      · have hg' : (0 : Int) < (gB (nxB l n) n s : Int) := by omega
        have hG : inG (nxB l n) n K s = true := by unfold inG; simp [hK, hg]
        have hgr : grL (nxB l n) n K (q + 1) s = s :: grL (nxB l n) n K q (s + 1) := by simp only [grL, hG, if_true]
        have c1 := fun hp b c rd => app_list (h := hp) (b := b) (c := c) (k := 1) (by' := 4) (l := O.length) (cs := wm O) (new := [wv s]) (rd := rd) (by rw [wm_len]; simp) (by omega) (by omega) rfl
        have hap : O ++ s :: grL (nxB l n) n K q (s + 1) = (O ++ [s]) ++ grL (nxB l n) n K q (s + 1) := by simp
        have go : ∀ wr2, (wr2 = [] ∨ wr2 = [8]) → _ := fun wr2 x => ih (s + 1) (O ++ [s]) eb1 wr2 (by omega) g1 x (by simp; omega)
        rw [hgr, hap]
        clear ih hgr hap hG
        simp only [wB, cast1] at g3 go ⊢
        generalize wm ((O ++ [s]) ++ grL (nxB l n) n K q (s + 1)) = Y at *
        generalize ((O ++ [s]) ++ grL (nxB l n) n K q (s + 1)).length = y at *
        simp only [List.length_append, List.length_cons, List.length_nil, Nat.zero_add] at go ⊢
        simp only [wm_app, wm_one] at go ⊢
        generalize gB (nxB l n) n s = w at *
        generalize wm O = Q at *
        generalize O.length = m at *
        generalize 2 ^ n = N at *
        rcases g2 with ⟨rfl, rfl⟩ | rfl
        · obtain ⟨eb', wr', i1, i2, i3⟩ := go wr hw
          refine ⟨eb', wr', i1, i2, ?_⟩
          rw [hwv] at i3
          rw [lpB_eq]
          rcases hw with rfl | rfl
          · simp (maxSteps := 1000000) (disch := first | omega | decide | assumption | simp [scal]) [o_fieldAddr fa_90_0 (by decide), loadA_eq ia_78, lenA_sl lk_78, o_fieldAddr fa_90_2 (by decide), loadA_eq ia_88, o_indexAddrS es_94, ze_94, o_buildSlice es_94 ze_94 (by decide) ba_94_1, ap_94, builtin_append ni_94, want_some q64_20g4, e0, e1, a1, hws, hK', hg, hg', g3, append_some ap_94, srcCells, c1, fm_ptr, fm_ren, ptrV_map, renV_map, i3]
          · simp (maxSteps := 1000000) (disch := first | omega | decide | assumption | simp [scal]) [o_fieldAddr fa_90_0 (by decide), loadA_eq ia_78, lenA_sl lk_78, o_fieldAddr fa_90_2 (by decide), loadA_eq ia_88, o_indexAddrS es_94, ze_94, o_buildSlice es_94 ze_94 (by decide) ba_94_1, ap_94, builtin_append ni_94, want_some q64_20g4, e0, e1, a1, hws, hK', hg, hg', g3, append_some ap_94, srcCells, c1, fm_ptr, fm_ren, ptrV_map, renV_map, i3]
        · obtain ⟨eb', wr', i1, i2, i3⟩ := go [8] (.inr rfl)
          refine ⟨eb', wr', i1, .inr (by rcases i2 with ⟨h1, _⟩ | h1 <;> exact h1), ?_⟩
          rw [hwv] at i3
          rw [lpB_eq]
          rcases hw with rfl | rfl
          · simp (maxSteps := 1000000) (disch := first | omega | decide | assumption | simp [scal]) [o_fieldAddr fa_90_0 (by decide), loadA_eq ia_78, lenA_sl lk_78, o_fieldAddr fa_90_2 (by decide), loadA_eq ia_88, o_indexAddrS es_94, ze_94, o_buildSlice es_94 ze_94 (by decide) ba_94_1, ap_94, builtin_append ni_94, want_some q64_20g4, e0, e1, a1, hws, hK', hg, hg', g3, append_some ap_94, srcCells, c1, fm_ptr, fm_ren, ptrV_map, renV_map, i3]
          · simp (maxSteps := 1000000) (disch := first | omega | decide | assumption | simp [scal]) [o_fieldAddr fa_90_0 (by decide), loadA_eq ia_78, lenA_sl lk_78, o_fieldAddr fa_90_2 (by decide), loadA_eq ia_88, o_indexAddrS es_94, ze_94, o_buildSlice es_94 ze_94 (by decide) ba_94_1, ap_94, builtin_append ni_94, want_some q64_20g4, e0, e1, a1, hws, hK', hg, hg', g3, append_some ap_94, srcCells, c1, fm_ptr, fm_ren, ptrV_map, renV_map, i3]
      · have hg0 : gB (nxB l n) n s = 0 := by omega
        have hG : inG (nxB l n) n K s = false := by unfold inG; simp [hg]
        have hgr : grL (nxB l n) n K (q + 1) s = grL (nxB l n) n K q (s + 1) := by simp only [grL, hG, Bool.false_eq_true, if_false]
        have go : ∀ wr2, (wr2 = [] ∨ wr2 = [8]) → _ := fun wr2 x => ih (s + 1) O eb1 wr2 (by omega) g1 x (by omega)
        rw [hgr]
        rw [hg0] at g3
        clear ih hgr hG
        simp only [wB, Int.natCast_zero, cast1] at g3 go ⊢
        generalize wm O = Q at *
        generalize wm (O ++ grL (nxB l n) n K q (s + 1)) = Y at *
        generalize (O ++ grL (nxB l n) n K q (s + 1)).length = y at *
        generalize O.length = m at *
        generalize 2 ^ n = N at *
        rcases g2 with ⟨rfl, rfl⟩ | rfl
        · obtain ⟨eb', wr', i1, i2, i3⟩ := go wr hw
          refine ⟨eb', wr', i1, i2, ?_⟩
          rw [hwv] at i3
          rw [lpB_eq]
          rcases hw with rfl | rfl
          · simp (maxSteps := 1000000) (disch := first | omega | decide | assumption | simp [scal]) [o_fieldAddr fa_90_0 (by decide), loadA_eq ia_78, lenA_sl lk_78, o_fieldAddr fa_90_2 (by decide), loadA_eq ia_88, o_indexAddrS es_94, ze_94, o_buildSlice es_94 ze_94 (by decide) ba_94_1, ap_94, builtin_append ni_94, want_some q64_20g4, e0, e1, a1, hws, hK', g3, fm_ptr, fm_ren, ptrV_map, renV_map, i3]
          · simp (maxSteps := 1000000) (disch := first | omega | decide | assumption | simp [scal]) [o_fieldAddr fa_90_0 (by decide), loadA_eq ia_78, lenA_sl lk_78, o_fieldAddr fa_90_2 (by decide), loadA_eq ia_88, o_indexAddrS es_94, ze_94, o_buildSlice es_94 ze_94 (by decide) ba_94_1, ap_94, builtin_append ni_94, want_some q64_20g4, e0, e1, a1, hws, hK', g3, fm_ptr, fm_ren, ptrV_map, renV_map, i3]
        · obtain ⟨eb', wr', i1, i2, i3⟩ := go [8] (.inr rfl)
          refine ⟨eb', wr', i1, .inr (by rcases i2 with ⟨h1, _⟩ | h1 <;> exact h1), ?_⟩
          rw [hwv] at i3
          rw [lpB_eq]
          rcases hw with rfl | rfl
          · simp (maxSteps := 1000000) (disch := first | omega | decide | assumption | simp [scal]) [o_fieldAddr fa_90_0 (by decide), loadA_eq ia_78, lenA_sl lk_78, o_fieldAddr fa_90_2 (by decide), loadA_eq ia_88, o_indexAddrS es_94, ze_94, o_buildSlice es_94 ze_94 (by decide) ba_94_1, ap_94, builtin_append ni_94, want_some q64_20g4, e0, e1, a1, hws, hK', g3, fm_ptr, fm_ren, ptrV_map, renV_map, i3]
          · simp (maxSteps := 1000000) (disch := first | omega | decide | assumption | simp [scal]) [o_fieldAddr fa_90_0 (by decide), loadA_eq ia_78, lenA_sl lk_78, o_fieldAddr fa_90_2 (by decide), loadA_eq ia_88, o_indexAddrS es_94, ze_94, o_buildSlice es_94 ze_94 (by decide) ba_94_1, ap_94, builtin_append ni_94, want_some q64_20g4, e0, e1, a1, hws, hK', g3, fm_ptr, fm_ren, ptrV_map, renV_map, i3]
    · have hG : inG (nxB l n) n K s = false := by unfold inG; simp [hK]
      have hgr : grL (nxB l n) n K (q + 1) s = grL (nxB l n) n K q (s + 1) := by simp only [grL, hG, Bool.false_eq_true, if_false]
      obtain ⟨eb', wr', i1, i2, i3⟩ := ih (s + 1) O eb wr (by omega) hi hw (by omega)
      refine ⟨eb', wr', i1, i2, ?_⟩
      rw [hwv] at i3
      rw [hgr]
      clear ih hgr hG
      simp only [wB, cast1] at i3 ⊢
      generalize wm O = Q at *
      generalize wm (O ++ grL (nxB l n) n K q (s + 1)) = Y at *
      generalize (O ++ grL (nxB l n) n K q (s + 1)).length = y at *
      generalize O.length = m at *
      generalize 2 ^ n = N at *
      rw [lpB_eq]
      rcases hw with rfl | rfl
      · simp (maxSteps := 1000000) (disch := first | omega | decide | assumption | simp [scal]) [o_fieldAddr fa_90_0 (by decide), loadA_eq ia_78, lenA_sl lk_78, o_fieldAddr fa_90_2 (by decide), loadA_eq ia_88, o_indexAddrS es_94, ze_94, o_buildSlice es_94 ze_94 (by decide) ba_94_1, ap_94, builtin_append ni_94, want_some q64_20g4, e0, e1, a1, hws, hK, fm_ptr, fm_ren, ptrV_map, renV_map, i3]
      · simp (maxSteps := 1000000) (disch := first | omega | decide | assumption | simp [scal]) [o_fieldAddr fa_90_0 (by decide), loadA_eq ia_78, lenA_sl lk_78, o_fieldAddr fa_90_2 (by decide), loadA_eq ia_88, o_indexAddrS es_94, ze_94, o_buildSlice es_94 ze_94 (by decide) ba_94_1, ap_94, builtin_append ni_94, want_some q64_20g4, e0, e1, a1, hws, hK, fm_ptr, fm_ren, ptrV_map, renV_map, i3]
theorem rchLG (es eb : List (Nat × Nat)) (rest : List Blk) : reach (LA off n c cs own es eb rest) 0 reachN [1] [] = [1, 0, 2, 3, 4, 5, 6, 7, 8] := by
  simp only [reachP_cons, nblt, nbeq, mem_nil, mem_cons, memC_t, memC_f, reachQ_f, reachQ_t, Bool.or_false, Bool.or_true, Bool.false_or, Bool.true_or, decide_false, decide_true, Nat.not_lt_zero, rootsB, List.getElem?_cons_succ, List.getElem?_cons_zero, ptrB_non, ptrB_flat, ptrL_eq, ptrL, ptrV_bool, ptrV_int, ptrV_string, ptrV_nilFunc, ptrV_nilIface, ptrV_nilPtr, ptrV_nilSl, ptrV_iface, ptrV_agg, ptrV_tuple, ptrV_func, ptrV_ptr, ptrV_sl, dep, ptrFn, List.nil_append, List.cons_append, List.append_nil, reach_nil, reachN, Nat.reduceEqDiff, Nat.reduceAdd, Nat.reduceSub, reduceCtorEq, Nat.reduceLT, Nat.lt_irrefl, List.flatMap_cons, List.flatMap_nil, optAll, renL_eq, renL, renB_flat, renB_non, renV_bool, renV_int, renV_string, renV_nilFunc, renV_nilIface, renV_nilPtr, renV_ptr, renV_nilSl, renV_sl, renV_iface, renV_agg, renV_tuple, renV_func, renFn, idx_nil, idx_cons, idxC_t, idxC_f, Option.map_some, Option.map_none, fm_ptr, ptrV_map]
theorem pickLG (es eb : List (Nat × Nat)) (rest : List Blk) : optAll (pickB (LA off n c cs own es eb rest) (idx [1, 0, 2, 3, 4, 5, 6, 7, 8])) [1, 0, 2, 3, 4, 5, 6, 7, 8] = some (LG off n c cs own es eb []) := by
  simp (maxSteps := 1000000) (disch := first | omega | decide | assumption | simp [scal]) [pickB, renV_map, fm_ren]
theorem k64 (hc : SpC cs off n l) (hn : n ≤ 9) (es eb : List (Nat × Nat)) (hi : InvB (nxB l n) n eb) : ∃ eb' wr, InvB (nxB l n) n eb' ∧
    callH LL 64 [pp 1, iv K] (LA off n c cs own es eb []) = some ⟨sl 9 0 (grL (nxB l n) n K (2 ^ n) 0).length (grL (nxB l n) n K (2 ^ n) 0).length, LA off n c cs own es eb' [wB (grL (nxB l n) n K (2 ^ n) 0)], [1, 0, 2, 3, 4, 5, 6, 7, 8], wr⟩ ∧ (wr = [] ∨ wr = [8]) := by
  obtain ⟨eb', wr', i1, i2, i3⟩ := l64 off n c (own := own) K hc hn es (2 ^ n) 0 [] eb [] (by omega) hi (.inl rfl) (by simp)
  have f3 := shl_poww (J := n) (by omega)
  simp only [List.nil_append, List.length_nil, wB, wm_nil] at i3 ⊢
  generalize wm (grL (nxB l n) n K (2 ^ n) 0) = Y at *
  generalize (grL (nxB l n) n K (2 ^ n) 0).length = y at *
  rw [show wv 0 = .int .u32 0 from rfl, show wv (2 ^ n) = .int .u32 ((2 ^ n : Nat) : Int) from rfl] at i3
  generalize ((2 ^ n : Nat) : Int) = N at *
  rcases i2 with ⟨rfl, rfl⟩ | rfl
  · have hrun : LL.run 64 [pp 0, iv K] (LG off n c cs own es eb' []) = some ⟨sl 9 0 y y, [.cells Y 1 true true], []⟩ := by
      refine go (by decide) ?_
      rw [run64 _ _ _ (by simp)]
      simp (maxSteps := 1000000) (disch := first | omega | decide | assumption | simp [scal]) [o_fieldAddr fa_90_0 (by decide), loadA_eq ia_78, lenA_sl lk_78, o_fieldAddr fa_90_2 (by decide), loadA_eq ia_88, o_indexAddrS es_94, ze_94, o_buildSlice es_94 ze_94 (by decide) ba_94_1, ap_94, builtin_append ni_94, want_some q64_20g4, f3, i3, fm_ptr, fm_ren, ptrV_map, renV_map]
    exact ⟨eb', [], i1, callH_lit (by intro _; first | trivial | rfl) rfl (rchLG ..) rfl (pickLG ..) hrun (by simp [mergeB, renV_sl, dep, optAll, renB_flat]) (by simp), .inl rfl⟩
  · have hrun : LL.run 64 [pp 0, iv K] (LG off n c cs own es eb []) = some ⟨sl 9 0 y y, [.cells Y 1 true true], [(8, fmB eb')]⟩ := by
      refine go (by decide) ?_
      rw [run64 _ _ _ (by simp)]
      simp (maxSteps := 1000000) (disch := first | omega | decide | assumption | simp [scal]) [o_fieldAddr fa_90_0 (by decide), loadA_eq ia_78, lenA_sl lk_78, o_fieldAddr fa_90_2 (by decide), loadA_eq ia_88, o_indexAddrS es_94, ze_94, o_buildSlice es_94 ze_94 (by decide) ba_94_1, ap_94, builtin_append ni_94, want_some q64_20g4, f3, i3, fm_ptr, fm_ren, ptrV_map, renV_map]
    exact ⟨eb', [8], i1, callH_lit (by intro _; first | trivial | rfl) rfl (rchLG ..) rfl (pickLG ..) hrun (by simp [mergeB, renV_sl, dep, optAll, renB_flat, fm_ren]) (by simp), .inr rfl⟩
end
end Go.Proofs.Ytfccmddkblbeoaa.rk
namespace Go.Proofs.Ytfccmddkblbeoaa.rk
open Go.GE
set_option linter.unusedVariables false
set_option linter.unusedSimpArgs false
set_option linter.unusedSectionVars false
set_option maxRecDepth 100000
set_option maxHeartbeats 4000000
attribute [local simp] runOps_nil runOps_cons runOpsF_nil runOpsF_cons fstS_some fstF_some opStep_eq want_none oStep_true oStep_false fin_pure fin_read fin_alloc fin_write storeB wrN cellV addWr o_move o_assign o_pick o_alloc o_box o_load o_store o_nilCheck o_bin o_un o_extract o_callV o_callB o_callI callV_f callV_y callV_fc o_makeFunc partsA Instr.fill builtin_len builtin_max2 bin_add bin_sub bin_mul bin_quo bin_rem bin_lss bin_leq bin_gtr bin_geq bin_eql bin_neq un_neg un_not bin_shr bin_shl wrap_u64_id opd opds optAll putO nbeq nblt constOk isC ops sub cl cr co bodyOf thenS_normal thenS_ret thenS_exit thenS_goto afterN_normal afterN_ret afterN_exit afterN_goto condS_true condS_false blockS_normal blockS_ret blockS_exit blockS_goto headS normS normK_eq fixS_nil fixS_cons fix1 fixV emptyB keepO_nil keepO_cons roundC_normal roundC_exit roundC_ret roundC_goto sweep_eq sweepD rnm pickR pickW rootsB ptrT renT ptrFn renFn ptrB_flat ptrB_non renB_flat renB_non plainS_some drawS_some fpsOk disj unord range' dropTo enumT undef wrap_i64_id Value.cells mkCells ptrTo scal cellsAt rdN endS_ret resultsA Option.bind_some tupV finish reachN dep ptrL_eq ptrL renL_eq renL ptrV_bool ptrV_int ptrV_string ptrV_nilFunc ptrV_nilIface ptrV_nilPtr ptrV_ptr ptrV_nilSl ptrV_sl ptrV_iface ptrV_agg ptrV_tuple ptrV_func renV_bool renV_int renV_string renV_nilFunc renV_nilIface renV_nilPtr renV_ptr renV_nilSl renV_sl renV_iface renV_agg renV_tuple renV_func gotoS_goto gotoS_normal gotoS_exit gotoS_ret skip_seq sliceE bnd bndHi intOf optOpd keepT_nil keepT_cons keepC_t keepC_f lk_nil lk_cons lkC_t lkC_f has_nil has_cons hasC_t hasC_f rep_nil rep_cons repC_t repC_f put_eq putC_t putC_f mem_nil mem_cons memC_t memC_f idx_nil idx_cons idxC_t idxC_f reach_nil reachP_cons reachQ_t reachQ_f ptrB_dead renB_dead ins_eq
attribute [local simp] n29_1s n29_3s n29_7s n29_10s n29_11s n29_9s n29_13s n29_16s n29_17s n29_15s n29_18s n29_14s n29_12s n29_8s n29_6s n29_5s n29_20s n29_21s n29_19s n29_4s n29_2s n29_0s Try.f29
def grE (l : Nat → Int × Int) (n : Nat) (K : Int) : Int := if cntE l n = 0 then (if (decide (0 ≤ K) && decide (K ≤ (n : Int))) = true then 0 else 1) else cntE l n
def grV (l : Nat → Int × Int) (n : Nat) (K : Int) : Nat := if grE l n K = 0 then (grL (nxB l n) n K (2 ^ n) 0).length else 0
section
variable (b off n c : Nat) {cs : List Value} {own : Bool} {l : Nat → Int × Int} {h : List Blk} (hb : h[b]? = some (.cells cs 2 true own)) (hc : SpC cs off n l)
include hb hc
theorem k29 (hn : n ≤ 60) (hn9 : cntE l n = 0 → n ≤ 9) (K : Int) : callH LL 29 [sl b off n c, iv K] h = some ⟨.tuple #[iv (grV l n K : Nat), iv (grE l n K)], h, [b], []⟩ := by
  refine callH_1 rfl hb noIdB_flat (args' := [sl 0 off n c, iv K]) (by simp [renV, dep, optAll, idx, nbeq]) (go (by decide) ?_) (fun _ => rfl)
  have a59 := k59 off n c (own := own) hc hn
  rw [run29 _ _ _ (by simp)]
  unfold grV
  by_cases h1 : cntE l n = 0
  · rw [if_pos h1] at a59
    have hE : grE l n K = if (decide (0 ≤ K) && decide (K ≤ (n : Int))) = true then 0 else 1 := by unfold grE; rw [if_pos h1]
    cases h2 : (decide (0 ≤ K) && decide (K ≤ (n : Int)))
    · rw [h2, if_neg (by decide)] at hE
      rw [hE, if_neg (by decide)]
      simp (maxSteps := 1000000) (disch := first | omega | decide | assumption | simp [scal]) [lenA_sl lk_22, lenA_sl lk_94, a59, k57, h2, fm_ptr, fm_ren, ptrV_map, renV_map]
    · rw [h2, if_pos rfl] at hE
      rw [hE, if_pos rfl]
      obtain ⟨eb', wr, g1, g2, g3⟩ := k64 off n c (own := own) K hc (hn9 h1) [(2 ^ n - 1, 1)] [(0, 1)] invB0
      simp only [LA, wB] at g2
      generalize wm (grL (nxB l n) n K (2 ^ n) 0) = Y at *
      generalize (grL (nxB l n) n K (2 ^ n) 0).length = y at *
      rcases g3 with rfl | rfl
      · simp (maxSteps := 1000000) (disch := first | omega | decide | assumption | simp [scal]) [lenA_sl lk_22, lenA_sl lk_94, a59, k57, h2, g2, fm_ptr, fm_ren, ptrV_map, renV_map]
      · simp (maxSteps := 1000000) (disch := first | omega | decide | assumption | simp [scal]) [lenA_sl lk_22, lenA_sl lk_94, a59, k57, h2, g2, fm_ptr, fm_ren, ptrV_map, renV_map]
  · rw [if_neg h1] at a59
    have hE : grE l n K = cntE l n := by unfold grE; rw [if_neg h1]
    rw [hE, if_neg h1]
    simp (maxSteps := 1000000) (disch := first | omega | decide | assumption | simp [scal]) [lenA_sl lk_22, lenA_sl lk_94, a59, h1]
end
end Go.Proofs.Ytfccmddkblbeoaa.rk
namespace Go.Proofs.Ytfccmddkblbeoaa.rk
open Go.GE
set_option linter.unusedVariables false
set_option linter.unusedSimpArgs false
set_option linter.unusedSectionVars false
set_option maxRecDepth 100000
set_option maxHeartbeats 4000000
theorem gR_pos {l : Nat → Int × Int} {n : Nat} (hl : ∀ i, i < n → (l i).1 ≤ (l i).2) : ∀ q M, cntU n M = q → 0 < gR (nxB l n) n M := by
  intro q
  induction q with
  | zero => intro M h; unfold gR; rw [h]; simp [cR]
  | succ q ih =>
    intro M h
    obtain ⟨r, h1, h2, h3, h4⟩ := sel_succ hl h
    have hx := (selK_in n 0 r h1).2.2
    have hsum := gR_sum (nx := nxB l n) (fun _ _ h => nxB_bit h) h
    have h5 := ih (M ||| 2 ^ r) h4
    have key : ∀ (f : Nat → Nat) k j, j ≤ r → r < j + k → f r ≤ cS f k j 0 := by
      intro f k
      induction k with
      | zero => intro j h1 h2; omega
      | succ k ik =>
        intro j h1 h2
        simp only [cS]
        rw [cS_add]
        by_cases e : j = r
        · subst e; omega
        · have := ik (j + 1) (by omega) (by omega); omega
    have h6 := key (fN (nxB l n) n M) n 0 (by omega) (by omega)
    have h7 : fN (nxB l n) n M r = gR (nxB l n) n (M ||| 2 ^ r) := by simp only [fN, hx, cond_true]
    omega
end Go.Proofs.Ytfccmddkblbeoaa.rk
namespace Go.Proofs.Ytfccmddkblbeoaa.rk
open Go.GE
set_option linter.unusedVariables false
set_option linter.unusedSimpArgs false
set_option linter.unusedSectionVars false
set_option maxRecDepth 100000
set_option maxHeartbeats 4000000
def apS (F : Nat → List (List Nat)) : Nat → Nat → List (List Nat)
  | 0, _ => []
  | q + 1, i => F i ++ apS F q (i + 1)
def ords (nx : Nat → Nat → Bool) (n : Nat) : Nat → Nat → List (List Nat)
  | 0, _ => [[]]
  | k + 1, M => apS (fun i => cond (nx M i) ((ords nx n k (M ||| 2 ^ i)).map (i :: ·)) []) n 0
theorem apS_len {F : Nat → List (List Nat)} : ∀ q i, (apS F q i).length = cS (fun i => (F i).length) q i 0 := by
  intro q
  induction q with
  | zero => intro i; rfl
  | succ q ih =>
    intro i
    simp only [apS, cS, List.length_append, ih]
    rw [cS_add q (i + 1) (0 + (F i).length)]
    omega
theorem ords_len {nx : Nat → Nat → Bool} {n : Nat} : ∀ k M, (ords nx n k M).length = cR nx n k M := by
  intro k
  induction k with
  | zero => intro M; rfl
  | succ k ih =>
    intro M
    simp only [ords, apS_len, cR]
    refine cS_congr n 0 0 fun i _ _ => ?_
    cases nx M i
    · rfl
    · simp [ih]
theorem apS_mem {F : Nat → List (List Nat)} {O : List Nat} : ∀ q i, O ∈ apS F q i ↔ ∃ j, i ≤ j ∧ j < i + q ∧ O ∈ F j := by
  intro q
  induction q with
  | zero => intro i; simp [apS]; intro j h1 h2; omega
  | succ q ih =>
    intro i
    simp only [apS, List.mem_append, ih]
    constructor
    · rintro (h | ⟨j, h1, h2, h3⟩)
      · exact ⟨i, by omega, by omega, h⟩
      · exact ⟨j, by omega, by omega, h3⟩
    · rintro ⟨j, h1, h2, h3⟩
      by_cases e : j = i
      · subst e; exact .inl h3
      · exact .inr ⟨j, by omega, by omega, h3⟩
/-- a way on from a set -/
def pth (nx : Nat → Nat → Bool) (n : Nat) : Nat → List Nat → Prop
  | _, [] => True
  | M, i :: O => i < n ∧ nx M i = true ∧ pth nx n (M ||| 2 ^ i) O
theorem ords_mem {nx : Nat → Nat → Bool} {n : Nat} : ∀ k M O, O ∈ ords nx n k M ↔ O.length = k ∧ pth nx n M O := by
  intro k
  induction k with
  | zero =>
    intro M O
    simp only [ords, List.mem_singleton, List.length_eq_zero_iff]
    constructor
    · rintro rfl; exact ⟨rfl, trivial⟩
    · exact fun h => h.1
  | succ k ih =>
    intro M O
    simp only [ords, apS_mem]
    constructor
    · rintro ⟨j, _, h2, h3⟩
      cases hx : nx M j
      · rw [hx] at h3; cases h3
      · rw [hx] at h3
        simp only [cond_true, List.mem_map] at h3
        obtain ⟨P, h4, rfl⟩ := h3
        obtain ⟨h5, h6⟩ := (ih _ _).1 h4
        exact ⟨by simp [h5], by omega, hx, h6⟩
    · rintro ⟨h1, h2⟩
      cases O with
      | nil => cases h1
      | cons i P =>
        obtain ⟨h3, h4, h5⟩ := h2
        refine ⟨i, by omega, by omega, ?_⟩
        rw [h4]
        simp only [cond_true, List.mem_map]
        exact ⟨P, (ih _ _).2 ⟨by simpa using h1, h5⟩, rfl⟩
/-- what a way on is: days that are left, each once, none surely quieter than one before it, nor than it one that is left over -/
theorem pth_iff {l : Nat → Int × Int} {n : Nat} : ∀ (O : List Nat) (M : Nat), pth (nxB l n) n M O ↔
    (∀ x, x ∈ O → x < n ∧ M.testBit x = false) ∧ O.Nodup ∧ O.Pairwise (fun a b => quiet l b a = false) ∧ (∀ x, x ∈ O → ∀ t, t < n → M.testBit t = false → t ∉ O → quiet l t x = false) ∧ ∀ x, x ∈ O → quiet l x x = false := by
  intro O
  induction O with
  | nil => intro M; simp [pth]
  | cons i O ih =>
    intro M
    have hnx : nxB l n M i = true ↔ M.testBit i = false ∧ ∀ t, t < n → M.testBit t = false → quiet l t i = false := by
      unfold nxB
      rw [Bool.and_eq_true, Bool.not_eq_true', nxK_iff]
      constructor
      · rintro ⟨h1, h2⟩
        refine ⟨h1, fun t ht hb => ?_⟩
        rcases h2 t (by omega) (by omega) with h | h
        · rw [hb] at h; cases h
        · exact h
      · rintro ⟨h1, h2⟩
        refine ⟨h1, fun t _ ht => ?_⟩
        cases hb : M.testBit t
        · exact .inr (h2 t (by omega) hb)
        · exact .inl rfl
    have hor : ∀ t, (M ||| 2 ^ i).testBit t = false ↔ M.testBit t = false ∧ i ≠ t := by
      intro t; rw [bit_or, Bool.or_eq_false_iff, decide_eq_false_iff_not]
    simp only [pth, hnx, ih, hor]
    constructor
    · rintro ⟨h1, ⟨h2, h3⟩, h4, h5, h6, h7, h8⟩
      refine ⟨fun x hx => ?_, List.nodup_cons.2 ⟨fun hm => (h4 i hm).2.2 rfl, h5⟩, List.pairwise_cons.2 ⟨fun b hb => h3 b (h4 b hb).1 (h4 b hb).2.1, h6⟩, fun x hx t ht hb hn => ?_, fun x hx => ?_⟩
      · rcases List.mem_cons.1 hx with rfl | hx
        · exact ⟨h1, h2⟩
        · exact ⟨(h4 x hx).1, (h4 x hx).2.1⟩
      · rcases List.mem_cons.1 hx with rfl | hx
        · exact h3 t ht hb
        · exact h7 x hx t ht ⟨hb, fun e => hn (by simp [e])⟩ fun hm => hn (by simp [hm])
      · rcases List.mem_cons.1 hx with rfl | hx
        · exact h3 x h1 h2
        · exact h8 x hx
    · rintro ⟨h1, h2, h3, h4, h5⟩
      obtain ⟨g1, g2⟩ := h1 i (by simp)
      obtain ⟨g3, g4⟩ := List.nodup_cons.1 h2
      obtain ⟨g5, g6⟩ := List.pairwise_cons.1 h3
      refine ⟨g1, ⟨g2, fun t ht hb => ?_⟩, fun x hx => ⟨(h1 x (by simp [hx])).1, (h1 x (by simp [hx])).2, fun e => g3 (by rw [e]; exact hx)⟩, g4, g6, fun x hx t ht hb hn => ?_, fun x hx => h5 x (by simp [hx])⟩
      · by_cases e : t = i
        · subst e; exact h5 t (by simp)
        · by_cases hm : t ∈ O
          · exact g5 t hm
          · exact h4 i (by simp) t ht hb (by simp [e, hm])
      · exact h4 x (by simp [hx]) t ht hb.1 (by simp only [List.mem_cons, not_or]; exact ⟨fun e => hb.2 e.symm, hn⟩)
theorem nd_len : ∀ {l1 l2 : List Nat}, l1.Nodup → (∀ x, x ∈ l1 → x ∈ l2) → l1.length ≤ l2.length := by
  intro l1
  induction l1 with
  | nil => intro l2 _ _; simp
  | cons a l1 ih =>
    intro l2 h hs
    obtain ⟨h1, h2⟩ := List.nodup_cons.1 h
    have ha := hs a (by simp)
    have := ih (l2 := l2.erase a) h2 fun x hx => (List.mem_erase_of_ne (fun e => h1 (by rw [← e]; exact hx))).2 (hs x (by simp [hx]))
    have hl := List.length_erase_of_mem ha
    have hp := List.length_pos_of_mem ha
    simp only [List.length_cons]
    omega
theorem full_mem {O : List Nat} {n : Nat} (h1 : O.Nodup) (h2 : ∀ x, x ∈ O → x < n) (h3 : O.length = n) {t : Nat} (ht : t < n) : t ∈ O := by
  refine Classical.byContradiction fun hn => ?_
  have hm : t ∈ List.range n := List.mem_range.2 ht
  have := nd_len (l2 := (List.range n).erase t) h1 fun x hx => (List.mem_erase_of_ne (fun e => hn (by rw [← e]; exact hx))).2 (List.mem_range.2 (h2 x hx))
  have hl := List.length_erase_of_mem hm
  rw [List.length_range] at hl
  omega
/-- a full order -/
theorem full_iff {l : Nat → Int × Int} {n : Nat} (hl : ∀ i, i < n → quiet l i i = false) {O : List Nat} : O ∈ ords (nxB l n) n n 0 ↔ O.length = n ∧ (∀ x, x ∈ O → x < n) ∧ O.Nodup ∧ O.Pairwise (fun a b => quiet l b a = false) := by
  rw [ords_mem, pth_iff]
  constructor
  · rintro ⟨h1, h2, h3, h4, _⟩; exact ⟨h1, fun x hx => (h2 x hx).1, h3, h4⟩
  · rintro ⟨h1, h2, h3, h4⟩
    exact ⟨h1, fun x hx => ⟨h2 x hx, Nat.zero_testBit x⟩, h3, h4, fun x hx t ht _ hn => absurd (full_mem h3 h2 h1 ht) hn, fun x hx => hl x (h2 x hx)⟩
end Go.Proofs.Ytfccmddkblbeoaa.rk
namespace Go.Proofs.Ytfccmddkblbeoaa.rk
open Go.GE
set_option linter.unusedVariables false
set_option linter.unusedSimpArgs false
set_option linter.unusedSectionVars false
set_option maxRecDepth 100000
set_option maxHeartbeats 4000000
theorem cnt_ok {A : List (Int × Int)} {n : Nat} (H : OkM A) (hA : A.length = n) (n5 : n ≤ 5) : cntE (spAt A) n = 0 ∧ cntV (spAt A) n = cR (nxB (spAt A) n) n n 0 := by
  have h := H.chk
  rw [hA] at h
  have h1 : cntE (spAt A) n = 0 := by unfold cntE; rw [if_pos h, if_neg (by omega)]
  exact ⟨h1, by unfold cntV; rw [if_pos h1]⟩
theorem quiet_self {A : List (Int × Int)} {n : Nat} (H : OkM A) (hA : A.length = n) (i : Nat) (hi : i < n) : quiet (spAt A) i i = false := by
  have := H.at (i := i) (by omega)
  unfold quiet
  simp only [decide_eq_false_iff_not]
  omega
end Go.Proofs.Ytfccmddkblbeoaa.rk
namespace Go.Proofs.Ytfccmddkblbeoaa.rk
open Go.GE
set_option linter.unusedVariables false
set_option linter.unusedSimpArgs false
set_option linter.unusedSectionVars false
set_option maxRecDepth 100000
set_option maxHeartbeats 4000000
def slS : Nat → List (List Nat) → List Value
  | _, [] => []
  | p, O :: L => sl p 0 O.length O.length :: slS (p + 1) L
def rgN : Nat → Nat → List Nat
  | _, 0 => []
  | p, k + 1 => p :: rgN (p + 1) k
theorem slS_len : ∀ (L : List (List Nat)) (p : Nat), (slS p L).length = L.length := by
  intro L
  induction L with
  | nil => intro p; rfl
  | cons O L ih => intro p; simp [slS, ih]
theorem slS_app : ∀ (L M : List (List Nat)) (p : Nat), slS p (L ++ M) = slS p L ++ slS (p + L.length) M := by
  intro L M
  induction L with
  | nil => intro p; simp [slS]
  | cons O L ih => intro p; simp only [List.cons_append, slS, ih, List.length_cons]; rw [show p + 1 + L.length = p + (L.length + 1) by omega]
theorem slS_all : ∀ (L : List (List Nat)) (p : Nat), (slS p L).all cellV = true := by
  intro L
  induction L with
  | nil => intro p; rfl
  | cons O L ih => intro p; simp only [slS, List.all_cons, ih, Bool.and_true]; rfl
theorem slS_get : ∀ (L : List (List Nat)) (p i : Nat) (O : List Nat), L[i]? = some O → (slS p L)[i]? = some (sl (p + i) 0 O.length O.length) := by
  intro L
  induction L with
  | nil => intro p i O h; simp at h
  | cons A L ih =>
    intro p i O h
    cases i with
    | zero => simp at h; subst h; simp [slS]
    | succ i =>
      simp only [List.getElem?_cons_succ] at h
      simp only [slS, List.getElem?_cons_succ, ih _ _ _ h]
      rw [show p + 1 + i = p + (i + 1) by omega]
theorem slS_ptr : ∀ (L : List (List Nat)) (p : Nat), ptrL dep (slS p L) = rgN p L.length := by
  intro L
  induction L with
  | nil => intro p; rfl
  | cons O L ih => intro p; simp only [slS, ptrL, ih, List.length_cons, rgN]; rfl
theorem slS_ren {f : Nat → Option Nat} : ∀ (L : List (List Nat)) (p p' : Nat), (∀ j, j < L.length → f (p + j) = some (p' + j)) → renL f dep (slS p L) = some (slS p' L) := by
  intro L
  induction L with
  | nil => intro p p' h; rfl
  | cons O L ih =>
    intro p p' h
    have h0 := h 0 (by simp)
    rw [Nat.add_zero, Nat.add_zero] at h0
    have h1 := ih (p + 1) (p' + 1) (fun j hj => by rw [show p + 1 + j = p + (j + 1) by omega, show p' + 1 + j = p' + (j + 1) by omega]; exact h (j + 1) (by simp; omega))
    simp only [slS, renL, h1]
    simp only [dep, renV_sl, h0, Option.map_some]
theorem renL_app {f : Nat → Option Nat} {d : Nat} {b' : List Value} {b : List Value} (hb : renL f d b = some b') : ∀ {a a' : List Value}, renL f d a = some a' → renL f d (a ++ b) = some (a' ++ b') := by
  intro a
  induction a with
  | nil => intro a' h; simp only [renL, Option.some.injEq] at h; subst h; exact hb
  | cons v a ih =>
    intro a' h
    simp only [renL] at h
    split at h
    · rename_i v' l' h1 h2
      cases h
      simp only [List.cons_append, renL, h1, ih h2]
    · cases h
theorem ptrL_app {d : Nat} : ∀ {a b : List Value}, ptrL d (a ++ b) = ptrL d a ++ ptrL d b := by
  intro a b
  rw [← ptrL_eq, ← ptrL_eq, ← ptrL_eq, List.flatMap_append]
theorem rgN_len : ∀ (k p : Nat), (rgN p k).length = k := by
  intro k
  induction k with
  | zero => intro p; rfl
  | succ k ih => intro p; simp [rgN, ih]
theorem rgN_mem : ∀ (k p x : Nat), x ∈ rgN p k ↔ p ≤ x ∧ x < p + k := by
  intro k
  induction k with
  | zero => intro p x; simp [rgN]; try omega
  | succ k ih => intro p x; simp only [rgN, List.mem_cons, ih]; omega
theorem idx_app {a b : List Nat} {x : Nat} (h : x ∉ a) : idx (a ++ b) x = (idx b x).map (a.length + ·) := by
  induction a with
  | nil => rw [List.nil_append]; cases idx b x <;> simp [Option.map]
  | cons y a ih =>
    have h1 : ¬ y = x := fun e => h (by simp [e])
    have h2 : x ∉ a := fun e => h (by simp [e])
    simp only [List.cons_append, idx, nbeq, h1, decide_false, cond_false, ih h2, List.length_cons, Option.map_map]
    cases idx b x
    · rfl
    · simp only [Option.map_some, Function.comp]; congr 1; omega
theorem idx_rgN {r : List Nat} : ∀ (k p j : Nat), j < k → idx (rgN p k ++ r) (p + j) = some j := by
  intro k
  induction k with
  | zero => intro p j h; omega
  | succ k ih =>
    intro p j h
    simp only [rgN, List.cons_append, idx, nbeq]
    cases j with
    | zero => simp
    | succ j =>
      have := ih (p + 1) j (by omega)
      rw [show p + 1 + j = p + (j + 1) by omega] at this
      have e : ¬ p = p + (j + 1) := by omega
      simp only [e, decide_false, cond_false, this, Option.map_some]
theorem reach_low {h : List Blk} {base n b : Nat} {r acc : List Nat} (hb : b < base) : reach h base (n + 1) (b :: r) acc = reach h base n r acc := by
  rw [reachP_cons, nblt, decide_eq_true hb, Bool.true_or, reachQ_t]
theorem reach_old {h : List Blk} {base n b : Nat} {r acc : List Nat} (hb : b ∈ acc) : reach h base (n + 1) (b :: r) acc = reach h base n r acc := by
  rw [reachP_cons, mem_iff.2 hb, Bool.or_true, reachQ_t]
theorem reach_new {h : List Blk} {base n b : Nat} {r acc : List Nat} {blk : Blk} (hb : base ≤ b) (hm : b ∉ acc) (hk : h[b]? = some blk) : reach h base (n + 1) (b :: r) acc = reach h base n (ptrB blk ++ r) (acc ++ [b]) := by
  rw [reachP_cons, nblt, decide_eq_false (by omega), mem_false.2 hm, Bool.or_false, reachQ_f]
  simp only [rootsB, hk]
theorem reach_rg {h : List Blk} {base : Nat} {r : List Nat} : ∀ (k p n : Nat) (acc : List Nat), base ≤ p → k ≤ n → (∀ j, p ≤ j → j < p + k → (∃ blk, h[j]? = some blk ∧ ptrB blk = []) ∧ j ∉ acc) →
    reach h base n (rgN p k ++ r) acc = reach h base (n - k) r (acc ++ rgN p k) := by
  intro k
  induction k with
  | zero => intro p n acc _ _ _; simp [rgN]
  | succ k ih =>
    intro p n acc h1 h2 h3
    obtain ⟨n, rfl⟩ : ∃ m, n = m + 1 := ⟨n - 1, by omega⟩
    obtain ⟨⟨blk, h4, h5⟩, h6⟩ := h3 p (by omega) (by omega)
    rw [rgN, List.cons_append, reach_new h1 h6 h4, h5, List.nil_append, ih (p + 1) n (acc ++ [p]) (by omega) (by omega) (fun j a b => ⟨(h3 j (by omega) (by omega)).1, by
      simp only [List.mem_append, List.mem_singleton, not_or]
      exact ⟨(h3 j (by omega) (by omega)).2, by omega⟩⟩)]
    rw [Nat.add_sub_add_right]
    simp
theorem sweep_to {base : Nat} {σ σ' : Tm} {H news : List Blk} {δ : List Nat} (hr : reach H base reachN (ptrT σ) [] = δ) (hσ : renT (rnm base δ) σ = some σ') (hb : optAll (pickR base δ H) δ = some news) : sweep base ⟨σ, H, []⟩ = some ⟨σ', H.take base ++ news, []⟩ := by
  rw [sweep_eq]
  simp only [List.flatMap_nil, List.append_nil, hr]
  simp only [sweepD, hσ, hb, optAll, List.foldl_nil]
theorem optAll_app {α β : Type} {f : α → Option β} {b : List α} {b' : List β} (hb : optAll f b = some b') : ∀ {a : List α} {a' : List β}, optAll f a = some a' → optAll f (a ++ b) = some (a' ++ b') := by
  intro a
  induction a with
  | nil => intro a' h; simp only [optAll, Option.some.injEq] at h; subst h; exact hb
  | cons v a ih =>
    intro a' h
    obtain ⟨v', l', h1, h2, rfl⟩ := optAll_cons h
    simp only [List.cons_append, optAll, h1, ih h2]
theorem pick_rg {base : Nat} {δ : List Nat} {H : List Blk} : ∀ (L : List (List Nat)) (p : Nat), (∀ j O, L[j]? = some O → H[p + j]? = some (nB O)) → optAll (pickR base δ H) (rgN p L.length) = some (L.map nB) := by
  intro L
  induction L with
  | nil => intro p _; rfl
  | cons O L ih =>
    intro p h
    have h0 := h 0 O rfl
    rw [Nat.add_zero] at h0
    have h1 := ih (p + 1) (fun j O' hj => by rw [show p + 1 + j = p + (j + 1) by omega]; exact h (j + 1) O' (by simpa using hj))
    simp only [List.length_cons, rgN, optAll, h1, pickR, h0, renB_flat, List.map_cons]
/-- what is left of the heap when lists have been added to a list of lists -/
theorem sweep_join {K0 K1 : Blk} {R : List Blk} {σ σ' : Tm} {L M : List (List Nat)} {N p p' : Nat} (hN : (K0 :: K1 :: R)[N]? = some (.cells (slS p L ++ slS p' M) 1 false true))
    (hL : ∀ j O, L[j]? = some O → (K0 :: K1 :: R)[p + j]? = some (nB O)) (hM : ∀ j O, M[j]? = some O → (K0 :: K1 :: R)[p' + j]? = some (nB O)) (h1 : 2 ≤ N) (h2 : 2 ≤ p) (h3 : p + L.length ≤ p') (h4 : p' + M.length ≤ N ∨ N < p ∧ M = []) (h5 : L.length + M.length ≤ 50000)
    (hp : ptrT σ = [0, 1, N] ∨ ptrT σ = [N] ∨ ptrT σ = [1, 0, 1, N]) (hσ : ∀ f : Nat → Option Nat, f 0 = some 0 → f 1 = some 1 → f N = some 2 → renT f σ = some σ') :
    sweep 2 ⟨σ, K0 :: K1 :: R, []⟩ = some ⟨σ', K0 :: K1 :: .cells (slS 3 (L ++ M)) 1 false true :: (L ++ M).map nB, []⟩ := by
  have hpt : ptrB (.cells (slS p L ++ slS p' M) 1 false true) = rgN p L.length ++ rgN p' M.length := by rw [ptrB_non, ptrL_app, slS_ptr, slS_ptr]
  have core : ∀ n r, 60000 ≤ n → (r = [] ∨ r = [1]) → reach (K0 :: K1 :: R) 2 (n + 1) (N :: r) [] = N :: (rgN p L.length ++ rgN p' M.length) := by
    intro n r hn hr
    rw [reach_new h1 (by simp) hN, hpt, List.append_assoc, List.nil_append, reach_rg _ _ _ _ h2 (by omega) ?_, reach_rg _ _ _ _ (by omega) (by omega) ?_]
    · obtain ⟨m, hm⟩ : ∃ m, n - L.length - M.length = m + 1 := ⟨n - L.length - M.length - 1, by omega⟩
      rw [hm]
      rcases hr with rfl | rfl
      · rw [reach_nil]; simp
      · rw [reach_low (by omega), reach_nil]; simp
    · intro j a b
      have hj : j - p' < M.length := by omega
      have := hM (j - p') M[j - p'] (List.getElem?_eq_getElem hj)
      rw [show p' + (j - p') = j by omega] at this
      refine ⟨⟨_, this, ptrB_flat⟩, ?_⟩
      simp only [List.mem_append, List.mem_singleton, rgN_mem, not_or]
      rcases h4 with h4 | ⟨h4, rfl⟩
      · omega
      · simp at hj
    · intro j a b
      have hj : j - p < L.length := by omega
      have := hL (j - p) L[j - p] (List.getElem?_eq_getElem hj)
      rw [show p + (j - p) = j by omega] at this
      refine ⟨⟨_, this, ptrB_flat⟩, ?_⟩
      simp only [List.mem_singleton]
      omega
  have hr : reach (K0 :: K1 :: R) 2 reachN (ptrT σ) [] = N :: (rgN p L.length ++ rgN p' M.length) := by
    rw [show reachN = 99999 + 1 from rfl]
    rcases hp with e | e | e
    · rw [e, reach_low (by omega), show (99999 : Nat) = 99998 + 1 from rfl, reach_low (by omega), show (99998 : Nat) = 99997 + 1 from rfl]
      exact core 99997 _ (by omega) (.inl rfl)
    · rw [e]
      exact core 99999 _ (by omega) (.inl rfl)
    · rw [e, reach_low (by omega), show (99999 : Nat) = 99998 + 1 from rfl, reach_low (by omega), show (99998 : Nat) = 99997 + 1 from rfl, reach_low (by omega), show (99997 : Nat) = 99996 + 1 from rfl]
      exact core 99996 _ (by omega) (.inl rfl)
  generalize hδ : N :: (rgN p L.length ++ rgN p' M.length) = δ at hr
  have f0 : rnm 2 δ 0 = some 0 := rfl
  have f1 : rnm 2 δ 1 = some 1 := rfl
  have fN : rnm 2 δ N = some 2 := by
    subst hδ
    unfold rnm
    rw [nblt, decide_eq_false (by omega), cond_false, idx_cons, nbeq, decide_eq_true rfl]
    rfl
  have fL : ∀ j, j < L.length → rnm 2 δ (p + j) = some (3 + j) := by
    intro j hj
    subst hδ
    unfold rnm
    rw [nblt, decide_eq_false (by omega), cond_false, idx_cons, nbeq, decide_eq_false (by omega), idxC_f, idx_rgN _ _ _ hj]
    simp only [Option.map_some]; congr 1; omega
  have fM : ∀ j, j < M.length → rnm 2 δ (p' + j) = some (3 + L.length + j) := by
    intro j hj
    subst hδ
    unfold rnm
    have e : ¬ N = p' + j := by
      rcases h4 with h4 | ⟨h4, rfl⟩
      · omega
      · simp at hj
    have := idx_rgN (r := []) M.length p' j hj
    rw [List.append_nil] at this
    rw [nblt, decide_eq_false (by omega), cond_false, idx_cons, nbeq, decide_eq_false e, idxC_f, idx_app (by rw [rgN_mem]; omega), this, rgN_len]
    simp only [Option.map_some]; congr 1; omega
  have hb : optAll (pickR 2 δ (K0 :: K1 :: R)) δ = some (.cells (slS 3 (L ++ M)) 1 false true :: (L ++ M).map nB) := by
    have hN' : pickR 2 δ (K0 :: K1 :: R) N = some (.cells (slS 3 (L ++ M)) 1 false true) := by
      simp only [pickR, hN, renB_non]
      rw [renL_app (slS_ren M p' (3 + L.length) fM) (slS_ren L p 3 fL), slS_app]
      rfl
    have hrest : optAll (pickR 2 δ (K0 :: K1 :: R)) (rgN p L.length ++ rgN p' M.length) = some ((L ++ M).map nB) := by
      rw [List.map_append]
      exact optAll_app (pick_rg M p' hM) (pick_rg L p hL)
    rw [show optAll (pickR 2 δ (K0 :: K1 :: R)) δ = optAll (pickR 2 δ (K0 :: K1 :: R)) (N :: (rgN p L.length ++ rgN p' M.length)) by rw [hδ]]
    simp only [optAll, hN', hrest]
  rw [sweep_to hr (hσ _ f0 f1 fN) hb]
  rfl
end Go.Proofs.Ytfccmddkblbeoaa.rk
namespace Go.Proofs.Ytfccmddkblbeoaa.rk
open Go.GE
set_option linter.unusedVariables false
set_option linter.unusedSimpArgs false
set_option linter.unusedSectionVars false
set_option maxRecDepth 100000
set_option maxHeartbeats 4000000
attribute [local simp] runOps_nil runOps_cons runOpsF_nil runOpsF_cons fstS_some fstF_some opStep_eq want_none oStep_true oStep_false fin_pure fin_read fin_alloc fin_write storeB wrN cellV addWr o_move o_assign o_pick o_alloc o_box o_load o_store o_nilCheck o_bin o_un o_extract o_callV o_callB o_callI callV_f callV_y callV_fc o_makeFunc partsA Instr.fill builtin_len builtin_max2 bin_add bin_sub bin_mul bin_quo bin_rem bin_lss bin_leq bin_gtr bin_geq bin_eql bin_neq un_neg un_not bin_shr bin_shl wrap_u64_id opd opds optAll putO nbeq nblt constOk isC ops sub cl cr co bodyOf thenS_normal thenS_ret thenS_exit thenS_goto afterN_normal afterN_ret afterN_exit afterN_goto condS_true condS_false blockS_normal blockS_ret blockS_exit blockS_goto headS normS normK_eq fixS_nil fixS_cons fix1 fixV emptyB keepO_nil keepO_cons roundC_normal roundC_exit roundC_ret roundC_goto sweep_eq sweepD rnm pickR pickW rootsB ptrT renT ptrFn renFn ptrB_flat ptrB_non renB_flat renB_non plainS_some drawS_some fpsOk disj unord range' dropTo enumT undef wrap_i64_id Value.cells mkCells ptrTo scal cellsAt rdN endS_ret resultsA Option.bind_some tupV finish reachN dep ptrL_eq ptrL renL_eq renL ptrV_bool ptrV_int ptrV_string ptrV_nilFunc ptrV_nilIface ptrV_nilPtr ptrV_ptr ptrV_nilSl ptrV_sl ptrV_iface ptrV_agg ptrV_tuple ptrV_func renV_bool renV_int renV_string renV_nilFunc renV_nilIface renV_nilPtr renV_ptr renV_nilSl renV_sl renV_iface renV_agg renV_tuple renV_func gotoS_goto gotoS_normal gotoS_exit gotoS_ret skip_seq sliceE bnd bndHi intOf optOpd keepT_nil keepT_cons keepC_t keepC_f lk_nil lk_cons lkC_t lkC_f has_nil has_cons hasC_t hasC_f rep_nil rep_cons repC_t repC_f put_eq putC_t putC_f mem_nil mem_cons memC_t memC_f idx_nil idx_cons idxC_t idxC_f reach_nil reachP_cons reachQ_t reachQ_f ptrB_dead renB_dead ins_eq
attribute [local simp] n36_1s n36_4s n36_8s n36_11s n36_12s n36_10s n36_13s n36_9s n36_7s n36_15s n36_16s n36_14s n36_6s n36_17s n36_5s n36_3s n36_19s n36_22s n36_26s n36_29s n36_30s n36_28s n36_34s n36_36s n36_39s n36_43s n36_46s n36_47s n36_45s n36_51s n36_52s n36_50s n36_49s n36_53s n36_48s n36_44s n36_42s n36_41s n36_41g n36_40s n36_38s n36_55s n36_57s n36_58s n36_56s n36_54s n36_37s n36_35s n36_33s n36_32s n36_59s n36_31s n36_27s n36_25s n36_24s n36_24g n36_23s n36_21s n36_61s n36_62s n36_60s n36_20s n36_18s n36_2s n36_0s Try.f36
abbrev lsB (p : Nat) (L : List (List Nat)) : Blk := .cells (slS p L) 1 false true
/-- a day is among those from some place on -/
def ucL (B : List Nat) (i : Nat) : Nat → Nat → Bool → Bool
  | 0, _, u => u
  | k + 1, j, u => ucL B i k (j + 1) (u || decide (B.getD j 0 = i))
theorem map_at {L : List (List Nat)} {j : Nat} {O : List Nat} (h : L[j]? = some O) : (L.map nB)[j]? = some (nB O) := by simp [h]
theorem sw36 {A : List Value} {N : List Value} {L : List (List Nat)} (hL : L.length ≤ 50000) (σ : Tm) (hp : ptrT σ = [0, 1, 2] ∨ ptrT σ = [2] ∨ ptrT σ = [1, 0, 1, 2]) (hσ : ∀ f : Nat → Option Nat, f 0 = some 0 → f 1 = some 1 → f 2 = some 2 → renT f σ = some σ) :
    sweep 2 ⟨σ, .cells A 2 true true :: .cells N 1 true true :: lsB 3 L :: L.map nB, []⟩ = some ⟨σ, .cells A 2 true true :: .cells N 1 true true :: lsB 3 L :: L.map nB, []⟩ := by
  have sw := sweep_join (K0 := .cells A 2 true true) (K1 := .cells N 1 true true) (R := lsB 3 L :: L.map nB) (σ := σ) (σ' := σ) (L := L) (M := []) (N := 2) (p := 3) (p' := 3 + L.length)
      (by simp [lsB, slS]) (fun j O h => by rw [show 3 + j = j + 3 by omega]; exact map_at h) (fun j O h => by simp at h) (by omega) (by omega) (by omega) (.inr ⟨by omega, rfl⟩) (by simpa using hL) hp hσ
  rw [List.append_nil] at sw
  exact sw
section
variable (n b i : Nat) (A : List Value) {B : List Nat} {L : List (List Nat)} (hB : B.length = b) (hb : b ≤ 60) (hL : L.length ≤ 50000)
include hB hb hL
theorem l36b : ∀ (k j : Nat) (u : Bool), j + k = b →
    lpB Try.prog LL ⟨36, 52, 2, none⟩ n36_41 n36_42 ⟨[(6, iv i), (7, .bool u), (25, sl 1 0 b b), (26, iv b), (27, iv j), (0, sl 0 0 n n), (1, sl 1 0 b b), (5, sl 2 0 L.length L.length), (21, iv n), (22, iv i)], .cells A 2 true true :: nB B :: lsB 3 L :: L.map nB, []⟩ =
      some (.exit 2, ⟨[(6, iv i), (7, .bool (ucL B i k j u)), (0, sl 0 0 n n), (1, sl 1 0 b b), (5, sl 2 0 L.length L.length), (21, iv n), (22, iv i)], .cells A 2 true true :: nB B :: lsB 3 L :: L.map nB, []⟩) := by
  have sw := sw36 (A := A) (N := nm B) hL
  have s1 : ∀ (u : Bool) (j : Int), sweep 2 ⟨[(6, iv i), (7, .bool u), (25, sl 1 0 b b), (26, iv b), (27, iv j), (0, sl 0 0 n n), (1, sl 1 0 b b), (5, sl 2 0 L.length L.length), (21, iv n), (22, iv i)], .cells A 2 true true :: nB B :: lsB 3 L :: L.map nB, []⟩ = _ :=
    fun u j => sw _ (.inr (.inr rfl)) (fun f h0 h1 h2 => by simp [renT, renV_sl, renV_int, renV_bool, dep, h0, h1, h2])
  have s2 : ∀ (u : Bool), sweep 2 ⟨[(6, iv i), (7, .bool u), (0, sl 0 0 n n), (1, sl 1 0 b b), (5, sl 2 0 L.length L.length), (21, iv n), (22, iv i)], .cells A 2 true true :: nB B :: lsB 3 L :: L.map nB, []⟩ = _ :=
    fun u => sw _ (.inl rfl) (fun f h0 h1 h2 => by simp [renT, renV_sl, renV_int, renV_bool, dep, h0, h1, h2])
  clear sw
  simp only [lsB, nB] at s1 s2 ⊢
  have hN : ∀ j, j < b → (nm B)[j]? = some (iv (B.getD j 0)) := fun j hj => nm_get (by omega)
  generalize L.map (fun L => Blk.cells (nm L) 1 true true) = Q at *
  generalize slS 3 L = X at *
  generalize nm B = N at *
  intro k
  induction k with
  | zero =>
    intro j u hj
    obtain rfl : j = b := by omega
    rw [lpB_eq]
    simp (maxSteps := 1000000) (disch := first | omega | decide | assumption | simp [scal]) [lenA_sl lk_24, lenA_sl lk_22, o_indexAddrS es_49, ze_49, o_buildSlice es_49 ze_49 (by decide) ba_49_1, o_indexAddrS es_24, loadA_eq ia_3, ze_24, o_buildSlice es_24 ze_24 (by decide) ba_24_0, ap_24, builtin_append ni_24, o_buildSlice es_24 ze_24 (by decide) ba_24_1, ap_49, builtin_append ni_49, want_some q36_52g1, -sweep_eq, ucL, s1, s2]
  | succ k ih =>
    intro j u hj
    have e1 : j < b := by omega
    have e1' : (j : Int) < b := by omega
    have e3 := hN j e1
    have this := ih (j + 1) (u || decide (B.getD j 0 = i)) (by omega)
    simp only [cast1] at this
    unfold ucL
    rw [lpB_eq]
    generalize B.getD j 0 = x at *
    cases u
    · by_cases h : x = i
      · subst h
        simp only [decide_true, Bool.or_true] at this ⊢
        simp (maxSteps := 1000000) (disch := first | omega | decide | assumption | simp [scal]) [lenA_sl lk_24, lenA_sl lk_22, o_indexAddrS es_49, ze_49, o_buildSlice es_49 ze_49 (by decide) ba_49_1, o_indexAddrS es_24, loadA_eq ia_3, ze_24, o_buildSlice es_24 ze_24 (by decide) ba_24_0, ap_24, builtin_append ni_24, o_buildSlice es_24 ze_24 (by decide) ba_24_1, ap_49, builtin_append ni_49, want_some q36_52g1, -sweep_eq, e1, e1', e3, s1, s2, this]
      · have h' : ¬ (x : Int) = i := by omega
        simp only [h, decide_false, Bool.or_false] at this ⊢
        simp (maxSteps := 1000000) (disch := first | omega | decide | assumption | simp [scal]) [lenA_sl lk_24, lenA_sl lk_22, o_indexAddrS es_49, ze_49, o_buildSlice es_49 ze_49 (by decide) ba_49_1, o_indexAddrS es_24, loadA_eq ia_3, ze_24, o_buildSlice es_24 ze_24 (by decide) ba_24_0, ap_24, builtin_append ni_24, o_buildSlice es_24 ze_24 (by decide) ba_24_1, ap_49, builtin_append ni_49, want_some q36_52g1, -sweep_eq, e1, e1', e3, s1, s2, h, h', this]
    · simp only [Bool.true_or] at this ⊢
      simp (maxSteps := 1000000) (disch := first | omega | decide | assumption | simp [scal]) [lenA_sl lk_24, lenA_sl lk_22, o_indexAddrS es_49, ze_49, o_buildSlice es_49 ze_49 (by decide) ba_49_1, o_indexAddrS es_24, loadA_eq ia_3, ze_24, o_buildSlice es_24 ze_24 (by decide) ba_24_0, ap_24, builtin_append ni_24, o_buildSlice es_24 ze_24 (by decide) ba_24_1, ap_49, builtin_append ni_49, want_some q36_52g1, -sweep_eq, e1, e1', e3, s1, s2, this]
end
end Go.Proofs.Ytfccmddkblbeoaa.rk
namespace Go.Proofs.Ytfccmddkblbeoaa.rk
open Go.GE
set_option linter.unusedVariables false
set_option linter.unusedSimpArgs false
set_option linter.unusedSectionVars false
set_option maxRecDepth 100000
set_option maxHeartbeats 4000000
attribute [local simp] runOps_nil runOps_cons runOpsF_nil runOpsF_cons fstS_some fstF_some opStep_eq want_none oStep_true oStep_false fin_pure fin_read fin_alloc fin_write storeB wrN cellV addWr o_move o_assign o_pick o_alloc o_box o_load o_store o_nilCheck o_bin o_un o_extract o_callV o_callB o_callI callV_f callV_y callV_fc o_makeFunc partsA Instr.fill builtin_len builtin_max2 bin_add bin_sub bin_mul bin_quo bin_rem bin_lss bin_leq bin_gtr bin_geq bin_eql bin_neq un_neg un_not bin_shr bin_shl wrap_u64_id opd opds optAll putO nbeq nblt constOk isC ops sub cl cr co bodyOf thenS_normal thenS_ret thenS_exit thenS_goto afterN_normal afterN_ret afterN_exit afterN_goto condS_true condS_false blockS_normal blockS_ret blockS_exit blockS_goto headS normS normK_eq fixS_nil fixS_cons fix1 fixV emptyB keepO_nil keepO_cons roundC_normal roundC_exit roundC_ret roundC_goto sweep_eq sweepD rnm pickR pickW rootsB ptrT renT ptrFn renFn ptrB_flat ptrB_non renB_flat renB_non plainS_some drawS_some fpsOk disj unord range' dropTo enumT undef wrap_i64_id Value.cells mkCells ptrTo scal cellsAt rdN endS_ret resultsA Option.bind_some tupV finish reachN dep ptrL_eq ptrL renL_eq renL ptrV_bool ptrV_int ptrV_string ptrV_nilFunc ptrV_nilIface ptrV_nilPtr ptrV_ptr ptrV_nilSl ptrV_sl ptrV_iface ptrV_agg ptrV_tuple ptrV_func renV_bool renV_int renV_string renV_nilFunc renV_nilIface renV_nilPtr renV_ptr renV_nilSl renV_sl renV_iface renV_agg renV_tuple renV_func gotoS_goto gotoS_normal gotoS_exit gotoS_ret skip_seq sliceE bnd bndHi intOf optOpd keepT_nil keepT_cons keepC_t keepC_f lk_nil lk_cons lkC_t lkC_f has_nil has_cons hasC_t hasC_f rep_nil rep_cons repC_t repC_f put_eq putC_t putC_f mem_nil mem_cons memC_t memC_f idx_nil idx_cons idxC_t idxC_f reach_nil reachP_cons reachQ_t reachQ_f ptrB_dead renB_dead ins_eq
attribute [local simp] n36_1s n36_4s n36_8s n36_11s n36_12s n36_10s n36_13s n36_9s n36_7s n36_15s n36_16s n36_14s n36_6s n36_17s n36_5s n36_3s n36_19s n36_22s n36_26s n36_29s n36_30s n36_28s n36_34s n36_36s n36_39s n36_43s n36_46s n36_47s n36_45s n36_51s n36_52s n36_50s n36_49s n36_53s n36_48s n36_44s n36_42s n36_41s n36_41g n36_40s n36_38s n36_55s n36_57s n36_58s n36_56s n36_54s n36_37s n36_35s n36_33s n36_32s n36_59s n36_31s n36_27s n36_25s n36_24s n36_24g n36_23s n36_21s n36_61s n36_62s n36_60s n36_20s n36_18s n36_2s n36_0s Try.f36
theorem src_all {h : List Blk} {b n c : Nat} {cs : List Value} {flat own : Bool} (hb : h[b]? = some (.cells cs 1 flat own)) (hn : cs.length = n) (h1 : 1 ≤ n) : srcCells h 1 (sl b 0 n c) = some (n, cs, flat || cs.all scal, [b]) := by
  obtain ⟨m, rfl⟩ : ∃ m, n = m + 1 := ⟨n - 1, by omega⟩
  have hr := rdN_all cs ((m + 1) * 1) 0 (by omega)
  simp only [srcCells, hb, hr, List.drop_zero, Option.map_some]
theorem app_many {h : List Blk} {b c by' l n : Nat} {cs new : List Value} {rd : List Nat} {flat fl : Bool} (hlen : cs.length = l) (h1 : 1 ≤ n) (hb : (l + n) * by' ≤ 2 ^ 46) (hb2 : l + n ≤ 2 ^ 46) (hn : new.all cellV = true) :
    appS h 1 by' b 0 l c (some (.cells cs 1 flat true)) (some (n, new, fl, rd)) = some ⟨.slice (some ⟨h.length, 0, none⟩) (l + n) (l + n), h.set b .dead ++ [.cells (cs ++ new) 1 (flat && fl) true], b :: rd, [b]⟩ := by
  obtain ⟨m, rfl⟩ : ∃ m, n = m + 1 := ⟨n - 1, by omega⟩
  have hr := rdN_all cs (l * 1) 0 (by omega)
  simp only [appS, hr, List.drop_zero]
  rw [if_pos (by refine ⟨by omega, by omega, ?_, hn⟩; first | trivial | rfl)]
theorem app_zero {h : List Blk} {b c by' l : Nat} {blk : Option Blk} {new : List Value} {rd : List Nat} {fl : Bool} : appS h 1 by' b 0 l c blk (some (0, new, fl, rd)) = some ⟨sl b 0 l c, h, [], []⟩ := rfl
theorem src_zero {h : List Blk} {b c : Nat} : srcCells h 1 (sl b 0 0 c) = some (0, [], true, []) := rfl
theorem slS_scal : ∀ (L : List (List Nat)) (p : Nat), 1 ≤ L.length → (slS p L).all scal = false := by
  intro L p h
  cases L with
  | nil => simp at h
  | cons O L => rfl
theorem map_left {L : List (List Nat)} {R : List Blk} {j : Nat} {O : List Nat} (h : L[j]? = some O) : (L.map nB ++ R)[j]? = some (nB O) := by
  have hj : j < L.length := (List.getElem?_eq_some_iff.1 h).1
  rw [List.getElem?_append_left (by simpa using hj)]
  exact map_at h
/-- the heap when the lists of a call have been added to the list of lists -/
theorem sw_m {A N : List Value} {L M : List (List Nat)} {J : List Blk} {σ σ' : Tm} {p p' : Nat} (hp' : p' = L.length + (J.length + 4)) (hN : p = L.length + (M.length + (J.length + 4))) (h5 : L.length + M.length ≤ 50000)
    (hp : ptrT σ = [0, 1, p] ∨ ptrT σ = [p] ∨ ptrT σ = [1, 0, 1, p]) (hσ : ∀ f : Nat → Option Nat, f 0 = some 0 → f 1 = some 1 → f p = some 2 → renT f σ = some σ') :
    sweep 2 ⟨σ, .cells A 2 true true :: .cells N 1 true true :: .dead :: (L.map nB ++ (J ++ (lsB p' M :: (M.map nB ++ [.cells (slS 3 L ++ slS p' M) 1 false true])))), []⟩ =
      some ⟨σ', .cells A 2 true true :: .cells N 1 true true :: lsB 3 (L ++ M) :: (L ++ M).map nB, []⟩ := by
  have hm : (M.map nB).length = M.length := by simp
  have hl : (L.map nB).length = L.length := by simp
  refine sweep_join (p := 3) (p' := p') ?_ ?_ ?_ (by omega) (by omega) (by omega) (.inl (by omega)) h5 hp hσ
  · rw [hN, show L.length + (M.length + (J.length + 4)) = L.length + (M.length + (J.length + 1)) + 1 + 1 + 1 by omega]
    simp only [List.getElem?_cons_succ]
    rw [List.getElem?_append_right (by omega), List.getElem?_append_right (by omega), show L.length + (M.length + (J.length + 1)) - (L.map nB).length - J.length = M.length + 1 by omega, List.getElem?_cons_succ, List.getElem?_append_right (by omega), hm, Nat.sub_self]
    rfl
  · intro j O h
    rw [show 3 + j = j + 1 + 1 + 1 by omega]
    simp only [List.getElem?_cons_succ]
    exact map_left h
  · intro j O h
    rw [hp', show L.length + (J.length + 4) + j = L.length + (J.length + (j + 1)) + 1 + 1 + 1 by omega]
    simp only [List.getElem?_cons_succ]
    rw [List.getElem?_append_right (by omega), List.getElem?_append_right (by omega), show L.length + (J.length + (j + 1)) - (L.map nB).length - J.length = j + 1 by omega, List.getElem?_cons_succ]
    exact map_left h
/-- the heap when a call has answered no list -/
theorem sw_z {A N : List Value} {L : List (List Nat)} {J : List Blk} (h5 : L.length ≤ 50000) (σ : Tm) (hp : ptrT σ = [0, 1, 2] ∨ ptrT σ = [2] ∨ ptrT σ = [1, 0, 1, 2]) (hσ : ∀ f : Nat → Option Nat, f 0 = some 0 → f 1 = some 1 → f 2 = some 2 → renT f σ = some σ) :
    sweep 2 ⟨σ, .cells A 2 true true :: .cells N 1 true true :: lsB 3 L :: (L.map nB ++ J), []⟩ = some ⟨σ, .cells A 2 true true :: .cells N 1 true true :: lsB 3 L :: L.map nB, []⟩ := by
  have sw := sweep_join (K0 := .cells A 2 true true) (K1 := .cells N 1 true true) (R := lsB 3 L :: (L.map nB ++ J)) (σ := σ) (σ' := σ) (L := L) (M := []) (N := 2) (p := 3) (p' := 3 + L.length)
      (by simp [lsB, slS]) (fun j O h => by rw [show 3 + j = j + 3 by omega]; exact map_left h) (fun j O h => by simp at h) (by omega) (by omega) (by omega) (.inr ⟨by omega, rfl⟩) (by simpa using h5) hp hσ
  rw [List.append_nil] at sw
  exact sw
/-- the heap when the list that was handed over has been added to the list of lists -/
theorem sw_o {A N : List Value} {L : List (List Nat)} {J : List Blk} {O : List Nat} {y : Blk} {σ σ' : Tm} {p p' : Nat} (hp' : p' = L.length + (J.length + 3)) (hN : p = L.length + (J.length + 5)) (h5 : L.length + 1 ≤ 50000)
    (hp : ptrT σ = [0, 1, p] ∨ ptrT σ = [p] ∨ ptrT σ = [1, 0, 1, p]) (hσ : ∀ f : Nat → Option Nat, f 0 = some 0 → f 1 = some 1 → f p = some 2 → renT f σ = some σ') :
    sweep 2 ⟨σ, .cells A 2 true true :: .cells N 1 true true :: .dead :: (L.map nB ++ (J ++ [nB O, y, .cells (slS 3 L ++ [sl p' 0 O.length O.length]) 1 false true])), []⟩ =
      some ⟨σ', .cells A 2 true true :: .cells N 1 true true :: lsB 3 (L ++ [O]) :: (L ++ [O]).map nB, []⟩ := by
  have hl : (L.map nB).length = L.length := by simp
  refine sweep_join (p := 3) (p' := p') (M := [O]) ?_ ?_ ?_ (by omega) (by omega) (by omega) (.inl (by simp only [List.length_cons, List.length_nil]; omega)) (by simpa using h5) hp hσ
  · rw [hN, show L.length + (J.length + 5) = L.length + (J.length + 2) + 1 + 1 + 1 by omega]
    simp only [List.getElem?_cons_succ]
    rw [List.getElem?_append_right (by omega), List.getElem?_append_right (by omega), show L.length + (J.length + 2) - (L.map nB).length - J.length = 2 by omega]
    rfl
  · intro j O h
    rw [show 3 + j = j + 1 + 1 + 1 by omega]
    simp only [List.getElem?_cons_succ]
    exact map_left h
  · intro j O' h
    obtain rfl : j = 0 := by
      have := (List.getElem?_eq_some_iff.1 h).1
      simp at this; exact this
    cases h
    rw [hp', show L.length + (J.length + 3) + 0 = L.length + J.length + 1 + 1 + 1 by omega]
    simp only [List.getElem?_cons_succ]
    rw [List.getElem?_append_right (by omega), List.getElem?_append_right (by omega), show L.length + J.length - (L.map nB).length - J.length = 0 by omega]
    rfl
/-- what a call of orders answers -/
def O36 (n : Nat) (A : List Value) (B : List Nat) (M : List (List Nat)) : Prop := ∀ (h : List Blk) (b1 b2 : Nat), h[b1]? = some (.cells A 2 true true) → h[b2]? = some (nB B) → b1 ≠ b2 →
  callH LL 36 [sl b1 0 n n, sl b2 0 B.length B.length] h = some ⟨sl h.length 0 M.length M.length, h ++ lsB (h.length + 1) M :: M.map nB, [b1, b2], []⟩
/-- what a call of orders answers when all days are told -/
def Z36 (n : Nat) (A : List Value) (B : List Nat) : Prop := ∀ (h : List Blk) (b1 b2 : Nat), h[b1]? = some (.cells A 2 true true) → h[b2]? = some (nB B) → b1 ≠ b2 →
  callH LL 36 [sl b1 0 n n, sl b2 0 B.length B.length] h = some ⟨sl h.length 0 1 1, h ++ [.cells [sl b2 0 B.length B.length] 1 false true], [b1, b2], []⟩
/-- orders that go on from some days -/
def gF (B : List Nat) (G : Nat → List (List Nat)) (i : Nat) : List (List Nat) := cond (ucL B i B.length 0 false) [] (G i)
section
variable (n b : Nat) (A : List Value) {B : List Nat} (hB : B.length = b) (hb : b + 1 ≤ n) (hn5 : n ≤ 5) (G : Nat → List (List Nat)) (hG : ∀ i, i < n → (G i).length ≤ 1000) (hO : ∀ i, i < n → ucL B i b 0 false = false → O36 n A (B ++ [i]) (G i) ∨ Z36 n A (B ++ [i]) ∧ G i = [B ++ [i]])
include hB hb hn5 hG hO
theorem l36 : ∀ (q i : Nat) (L : List (List Nat)), i + q = n → L.length ≤ i * 1000 →
    lpB Try.prog LL ⟨36, 52, 2, none⟩ n36_24 n36_25 ⟨[(0, sl 0 0 n n), (1, sl 1 0 b b), (5, sl 2 0 L.length L.length), (21, iv n), (22, iv i)], .cells A 2 true true :: nB B :: lsB 3 L :: L.map nB, []⟩ =
      some (.exit 0, ⟨[(5, sl 2 0 (L ++ apS (gF B G) q i).length (L ++ apS (gF B G) q i).length)], .cells A 2 true true :: nB B :: lsB 3 (L ++ apS (gF B G) q i) :: (L ++ apS (gF B G) q i).map nB, []⟩) := by
  intro q
  induction q with
  | zero =>
    intro i L hi hL
    obtain rfl : i = n := by omega
    simp only [apS, List.append_nil]
    have s1 := sw36 (A := A) (N := nm B) (L := L) (by omega) [(5, sl 2 0 L.length L.length)] (.inr (.inl rfl)) (fun f h0 h1 h2 => by simp [renT, renV_sl, dep, h2])
    simp only [lsB, nB] at s1 ⊢
    generalize L.map (fun L => Blk.cells (nm L) 1 true true) = Q at *
    generalize slS 3 L = X at *
    generalize nm B = N at *
    rw [lpB_eq]
    simp (maxSteps := 1000000) (disch := first | omega | decide | assumption | simp [scal]) [lenA_sl lk_24, lenA_sl lk_22, o_indexAddrS es_49, ze_49, o_buildSlice es_49 ze_49 (by decide) ba_49_1, o_indexAddrS es_24, loadA_eq ia_3, ze_24, o_buildSlice es_24 ze_24 (by decide) ba_24_0, ap_24, builtin_append ni_24, o_buildSlice es_24 ze_24 (by decide) ba_24_1, ap_49, builtin_append ni_49, want_some q36_52g1, -sweep_eq, s1]
  | succ q ih =>
    intro i L hi hL
    have e0 : i < n := by omega
    have e1 : (i : Int) < n := by omega
    have hGi := hG i e0
    have lb := l36b n b i A hB (by omega) (L := L) (by omega) b 0 false (by omega)
    have this := ih (i + 1) (L ++ gF B G i) (by omega) (by
      have : (gF B G i).length ≤ 1000 := by unfold gF; cases ucL B i B.length 0 false <;> simp; exact hGi
      simp; omega)
    simp only [apS, ← List.append_assoc]
    generalize (L ++ gF B G i) ++ apS (gF B G) q (i + 1) = Z at *
    unfold gF at this
    rw [hB] at this
    simp only [cast1] at this
    clear ih
    have s1 := sw36 (A := A) (N := nm B) (L := L) (by omega) [(0, sl 0 0 n n), (1, sl 1 0 b b), (5, sl 2 0 L.length L.length), (21, iv n), (22, iv ((i : Int) + 1))] (.inl rfl) (fun f h0 h1 h2 => by simp [renT, renV_sl, renV_int, dep, h0, h1, h2])
    have s2 := sw36 (A := A) (N := nm B) (L := L) (by omega) [(6, iv i), (7, .bool false), (25, sl 1 0 b b), (26, iv b), (27, iv 0), (0, sl 0 0 n n), (1, sl 1 0 b b), (5, sl 2 0 L.length L.length), (21, iv n), (22, iv i)] (.inr (.inr rfl)) (fun f h0 h1 h2 => by simp [renT, renV_sl, renV_int, renV_bool, dep, h0, h1, h2])
    cases hu : ucL B i b 0 false
    · rw [hu] at lb this
      have ho := hO i e0 hu
      rw [cond_false] at this
      generalize hM : G i = M at *
      simp only [lsB, nB, Int.natCast_zero] at s1 s2 lb this ⊢
      generalize hq : L.length = q' at *
      generalize hQ : L.map (fun L => Blk.cells (nm L) 1 true true) = Q at *
      generalize Z.map (fun L => Blk.cells (nm L) 1 true true) = QZ at *
      generalize slS 3 Z = XZ at *
      generalize hX : slS 3 L = X at *
      have hl : Q.length = q' := by rw [← hQ, List.length_map, hq]
      have g0 : ∀ R : List Blk, (Q ++ R)[q']? = R[0]? := by intro R; rw [List.getElem?_append_right (by omega), show q' - Q.length = 0 by omega]
      have g1 : ∀ (R : List Blk) (k : Nat), (Q ++ R)[q' + k]? = R[k]? := by intro R k; rw [List.getElem?_append_right (by omega), show q' + k - Q.length = k by omega]
      have t0 : ∀ (R : List Blk) v, (Q ++ R).set q' v = Q ++ R.set 0 v := by intro R v; rw [List.set_append_right _ _ (by omega), show q' - Q.length = 0 by omega]
      have t1 : ∀ (R : List Blk) (k : Nat) v, (Q ++ R).set (q' + k) v = Q ++ R.set k v := by intro R k v; rw [List.set_append_right _ _ (by omega), show q' + k - Q.length = k by omega]
      have nn : ∀ a b : Nat, q' + a + b = q' + (a + b) := fun a b => Nat.add_assoc q' a b
      have dl : ∀ k : Nat, (q' + (k + 2) < 2) = False := fun k => by simp; omega
      rw [lpB_eq]
      by_cases hb0 : 1 ≤ b
      · have c1 := fun R => src_all (h := .cells A 2 true true :: .cells (nm B) 1 true true :: R) (b := 1) (n := b) (c := b) (cs := nm B) (flat := true) (own := true) rfl (by rw [nm_len, hB]) hb0
        have c2 := fun hp P rd fl => app_many (h := hp) (b := P) (c := 0) (by' := 8) (l := 0) (n := b) (cs := []) (new := nm B) (rd := rd) (flat := true) (fl := fl) rfl hb0 (by omega) (by omega) nm_all
        have c3 := fun hp P c rd => app_list (h := hp) (b := P) (c := c) (k := 1) (by' := 8) (l := b) (cs := nm B) (new := [iv i]) (rd := rd) (by rw [nm_len, hB]; omega) (by omega) (by omega) rfl
        simp only [List.nil_append, Nat.zero_add] at c2
        have c4 := fun K0 K1 K2 x y => src_all (h := K0 :: K1 :: K2 :: (Q ++ [x, y, .cells [iv i] 1 true true])) (b := q' + 5) (n := 1) (c := 1) (cs := [iv i]) (flat := true) (own := true) (by simp [g1]) rfl (by omega)
        rcases ho with ho | ⟨ho, hZ⟩
        · have cG := ho (.cells A 2 true true :: .cells (nm B) 1 true true :: .cells X 1 false true :: (Q ++ [.dead, .dead, .cells [iv i] 1 true true, .cells (nm B ++ [iv i]) 1 true true])) 0 (q' + 6) rfl (by simp [g1, nB, nm_app, nm_one]) (by omega)
          have hlen : (Blk.cells A 2 true true :: .cells (nm B) 1 true true :: .cells X 1 false true :: (Q ++ [.dead, .dead, .cells [iv i] 1 true true, .cells (nm B ++ [iv i]) 1 true true])).length = q' + 7 := by simp [hl]
          rw [hlen] at cG
          have hBl : (B ++ [i]).length = b + 1 := by simp [hB]
          rw [hBl] at cG
          simp only [lsB, nB, List.cons_append, List.append_assoc, List.nil_append, nn, Nat.reduceAdd] at cG
          by_cases hM0 : M = []
          · subst hM0
            simp only [List.append_nil, List.map_nil, slS, List.length_nil] at this cG
            have s3 := sw_z (A := A) (N := nm B) (L := L) (J := [.dead, .dead, .cells [iv i] 1 true true, .cells (nm B ++ [iv i]) 1 true true, .cells [] 1 false true]) (by omega) [(0, sl 0 0 n n), (1, sl 1 0 b b), (5, sl 2 0 q' q'), (21, iv n), (22, iv ((i : Int) + 1))] (.inl rfl) (fun f h0 h1 h2 => by simp [renT, renV_sl, renV_int, dep, h0, h1, h2])
            rw [hQ] at s3
            simp only [lsB, hX] at s3
            rw [hq, hQ, hX] at this
            simp (maxSteps := 1000000) (disch := first | omega | decide | assumption | simp [scal]) [lenA_sl lk_24, lenA_sl lk_22, o_indexAddrS es_49, ze_49, o_buildSlice es_49 ze_49 (by decide) ba_49_1, o_indexAddrS es_24, loadA_eq ia_3, ze_24, o_buildSlice es_24 ze_24 (by decide) ba_24_0, ap_24, builtin_append ni_24, o_buildSlice es_24 ze_24 (by decide) ba_24_1, ap_49, builtin_append ni_49, want_some q36_52g1, -sweep_eq, e0, e1, lb, s1, s2, s3, append_some ap_24, append_some ap_49, hl, g0, g1, t0, t1, nn, dl, c1, c2, c3, c4, cG, src_zero, app_zero, this]
          · have hm0 : 1 ≤ M.length := by cases M with | nil => exact absurd rfl hM0 | cons _ _ => simp
            have c5 := fun K0 K1 K2 x1 x2 x3 x4 R => src_all (h := K0 :: K1 :: K2 :: (Q ++ (x1 :: x2 :: x3 :: x4 :: .cells (slS (q' + 8) M) 1 false true :: R))) (b := q' + 7) (n := M.length) (c := M.length) (cs := slS (q' + 8) M) (flat := false) (own := true) (by simp [g1]) (slS_len M _) hm0
            have c6 := fun hp rd => app_many (h := hp) (b := 2) (c := q') (by' := 24) (l := q') (n := M.length) (cs := X) (new := slS (q' + 8) M) (rd := rd) (flat := false) (fl := false) (by rw [← hX, slS_len, hq]) hm0 (by omega) (by omega) (slS_all _ _)
            rw [slS_scal _ _ hm0] at c5
            simp only [Bool.or_false, Bool.and_false] at c5 c6
            have s3 := sw_m (A := A) (N := nm B) (L := L) (M := M) (J := [.dead, .dead, .cells [iv i] 1 true true, .cells (nm B ++ [iv i]) 1 true true]) (p := q' + (M.length + 1 + 1 + 1 + 1 + 1 + 1 + 1 + 1)) (p' := q' + 8) (σ := [(0, sl 0 0 n n), (1, sl 1 0 b b), (5, sl (q' + (M.length + 1 + 1 + 1 + 1 + 1 + 1 + 1 + 1)) 0 (q' + M.length) (q' + M.length)), (21, iv n), (22, iv ((i : Int) + 1))]) (σ' := [(0, sl 0 0 n n), (1, sl 1 0 b b), (5, sl 2 0 (q' + M.length) (q' + M.length)), (21, iv n), (22, iv ((i : Int) + 1))])
              (by simp only [List.length_cons, List.length_nil]; omega) (by simp only [List.length_cons, List.length_nil]; omega) (by omega) (.inl rfl) (fun f h0 h1 h2 => by simp [renT, renV_sl, renV_int, dep, h0, h1, h2])
            rw [hQ] at s3
            simp only [lsB, hX, List.cons_append, List.nil_append] at s3
            have hLM : (L ++ M).length = q' + M.length := by simp [hq]
            rw [hLM] at this
            generalize (L ++ M).map nB = Q2 at s3 this
            generalize slS 3 (L ++ M) = X2 at s3 this
            simp (maxSteps := 1000000) (disch := first | omega | decide | assumption | simp [scal]) [lenA_sl lk_24, lenA_sl lk_22, o_indexAddrS es_49, ze_49, o_buildSlice es_49 ze_49 (by decide) ba_49_1, o_indexAddrS es_24, loadA_eq ia_3, ze_24, o_buildSlice es_24 ze_24 (by decide) ba_24_0, ap_24, builtin_append ni_24, o_buildSlice es_24 ze_24 (by decide) ba_24_1, ap_49, builtin_append ni_49, want_some q36_52g1, -sweep_eq, e0, e1, lb, s1, s2, s3, append_some ap_24, append_some ap_49, hl, g0, g1, t0, t1, nn, dl, c1, c2, c3, c4, c5, c6, cG, this]
        · have cG := ho (.cells A 2 true true :: .cells (nm B) 1 true true :: .cells X 1 false true :: (Q ++ [.dead, .dead, .cells [iv i] 1 true true, .cells (nm B ++ [iv i]) 1 true true])) 0 (q' + 6) rfl (by simp [g1, nB, nm_app, nm_one]) (by omega)
          have hlen : (Blk.cells A 2 true true :: .cells (nm B) 1 true true :: .cells X 1 false true :: (Q ++ [.dead, .dead, .cells [iv i] 1 true true, .cells (nm B ++ [iv i]) 1 true true])).length = q' + 7 := by simp [hl]
          rw [hlen] at cG
          have hBl : (B ++ [i]).length = b + 1 := by simp [hB]
          rw [hBl] at cG
          simp only [List.cons_append, List.append_assoc, List.nil_append, nn, Nat.reduceAdd] at cG
          have c5 := fun K0 K1 K2 x1 x2 x3 x4 R => src_all (h := K0 :: K1 :: K2 :: (Q ++ (x1 :: x2 :: x3 :: x4 :: .cells [sl (q' + 6) 0 (b + 1) (b + 1)] 1 false true :: R))) (b := q' + 7) (n := 1) (c := 1) (cs := [sl (q' + 6) 0 (b + 1) (b + 1)]) (flat := false) (own := true) (by simp [g1]) rfl (by omega)
          have c6 := fun hp rd => app_many (h := hp) (b := 2) (c := q') (by' := 24) (l := q') (n := 1) (cs := X) (new := [sl (q' + 6) 0 (b + 1) (b + 1)]) (rd := rd) (flat := false) (fl := false) (by rw [← hX, slS_len, hq]) (by omega) (by omega) (by omega) rfl
          have hs : ([sl (q' + 6) 0 (b + 1) (b + 1)] : List Value).all scal = false := rfl
          rw [hs] at c5
          simp only [Bool.or_false, Bool.and_false] at c5 c6
          have s3 := sw_o (A := A) (N := nm B) (L := L) (O := B ++ [i]) (y := .cells [sl (q' + 6) 0 (b + 1) (b + 1)] 1 false true) (J := [.dead, .dead, .cells [iv i] 1 true true]) (p := q' + 8) (p' := q' + 6) (σ := [(0, sl 0 0 n n), (1, sl 1 0 b b), (5, sl (q' + 8) 0 (q' + 1) (q' + 1)), (21, iv n), (22, iv ((i : Int) + 1))]) (σ' := [(0, sl 0 0 n n), (1, sl 1 0 b b), (5, sl 2 0 (q' + 1) (q' + 1)), (21, iv n), (22, iv ((i : Int) + 1))])
            (by simp only [List.length_cons, List.length_nil]; omega) (by simp only [List.length_cons, List.length_nil]; omega) (by omega) (.inl rfl) (fun f h0 h1 h2 => by simp [renT, renV_sl, renV_int, dep, h0, h1, h2])
          rw [hQ, hBl] at s3
          rw [hZ] at this
          have hLM : (L ++ [B ++ [i]]).length = q' + 1 := by simp [hq]
          rw [hLM] at this
          generalize (L ++ [B ++ [i]]).map nB = Q2 at s3 this
          simp only [lsB, hX] at s3
          generalize slS 3 (L ++ [B ++ [i]]) = X2 at s3 this
          simp only [nB, nm_app, nm_one, List.cons_append, List.nil_append] at s3
          simp (maxSteps := 1000000) (disch := first | omega | decide | assumption | simp [scal]) [lenA_sl lk_24, lenA_sl lk_22, o_indexAddrS es_49, ze_49, o_buildSlice es_49 ze_49 (by decide) ba_49_1, o_indexAddrS es_24, loadA_eq ia_3, ze_24, o_buildSlice es_24 ze_24 (by decide) ba_24_0, ap_24, builtin_append ni_24, o_buildSlice es_24 ze_24 (by decide) ba_24_1, ap_49, builtin_append ni_49, want_some q36_52g1, -sweep_eq, e0, e1, lb, s1, s2, s3, append_some ap_24, append_some ap_49, hl, g0, g1, t0, t1, nn, dl, c1, c2, c3, c4, c5, c6, cG, this]
      · obtain rfl : b = 0 := by omega
        have hB0 : B = [] := List.length_eq_zero_iff.1 hB
        subst hB0
        simp only [Int.natCast_zero, nm_nil] at s1 s2 lb this ⊢
        have c4 := fun K0 K1 K2 x => src_all (h := K0 :: K1 :: K2 :: (Q ++ [x, .cells [iv i] 1 true true])) (b := q' + 4) (n := 1) (c := 1) (cs := [iv i]) (flat := true) (own := true) (by simp [g1]) rfl (by omega)
        have c3 := fun hp P c rd => app_list (h := hp) (b := P) (c := c) (k := 1) (by' := 8) (l := 0) (cs := []) (new := [iv i]) (rd := rd) (by simp) (by omega) (by omega) rfl
        rcases ho with ho | ⟨ho, hZ⟩
        · have cG := ho (.cells A 2 true true :: .cells [] 1 true true :: .cells X 1 false true :: (Q ++ [.dead, .cells [iv i] 1 true true, .cells [iv i] 1 true true])) 0 (q' + 5) rfl (by simp [g1, nB, nm_one]) (by omega)
          have hlen : (Blk.cells A 2 true true :: .cells [] 1 true true :: .cells X 1 false true :: (Q ++ [.dead, .cells [iv i] 1 true true, .cells [iv i] 1 true true])).length = q' + 6 := by simp [hl]
          rw [hlen] at cG
          have hBl : ([] ++ [i]).length = 1 := rfl
          rw [hBl] at cG
          simp only [lsB, nB, List.cons_append, List.append_assoc, List.nil_append, nn, Nat.reduceAdd] at cG
          by_cases hM0 : M = []
          · subst hM0
            simp only [List.append_nil, List.map_nil, slS, List.length_nil] at this cG
            have s3 := sw_z (A := A) (N := []) (L := L) (J := [.dead, .cells [iv i] 1 true true, .cells [iv i] 1 true true, .cells [] 1 false true]) (by omega) [(0, sl 0 0 n n), (1, sl 1 0 0 0), (5, sl 2 0 q' q'), (21, iv n), (22, iv ((i : Int) + 1))] (.inl rfl) (fun f h0 h1 h2 => by simp [renT, renV_sl, renV_int, dep, h0, h1, h2])
            rw [hQ] at s3
            simp only [lsB, hX] at s3
            rw [hq, hQ, hX] at this
            simp (maxSteps := 1000000) (disch := first | omega | decide | assumption | simp [scal]) [lenA_sl lk_24, lenA_sl lk_22, o_indexAddrS es_49, ze_49, o_buildSlice es_49 ze_49 (by decide) ba_49_1, o_indexAddrS es_24, loadA_eq ia_3, ze_24, o_buildSlice es_24 ze_24 (by decide) ba_24_0, ap_24, builtin_append ni_24, o_buildSlice es_24 ze_24 (by decide) ba_24_1, ap_49, builtin_append ni_49, want_some q36_52g1, -sweep_eq, e0, e1, lb, s1, s2, s3, append_some ap_24, append_some ap_49, hl, g0, g1, t0, t1, nn, dl, c3, c4, src_zero, app_zero, cG, this]
          · have hm0 : 1 ≤ M.length := by cases M with | nil => exact absurd rfl hM0 | cons _ _ => simp
            have c5 := fun K0 K1 K2 x1 x2 x3 R => src_all (h := K0 :: K1 :: K2 :: (Q ++ (x1 :: x2 :: x3 :: .cells (slS (q' + 7) M) 1 false true :: R))) (b := q' + 6) (n := M.length) (c := M.length) (cs := slS (q' + 7) M) (flat := false) (own := true) (by simp [g1]) (slS_len M _) hm0
            have c6 := fun hp rd => app_many (h := hp) (b := 2) (c := q') (by' := 24) (l := q') (n := M.length) (cs := X) (new := slS (q' + 7) M) (rd := rd) (flat := false) (fl := false) (by rw [← hX, slS_len, hq]) hm0 (by omega) (by omega) (slS_all _ _)
            rw [slS_scal _ _ hm0] at c5
            simp only [Bool.or_false, Bool.and_false] at c5 c6
            have s3 := sw_m (A := A) (N := []) (L := L) (M := M) (J := [.dead, .cells [iv i] 1 true true, .cells [iv i] 1 true true]) (p := q' + (M.length + 1 + 1 + 1 + 1 + 1 + 1 + 1)) (p' := q' + 7) (σ := [(0, sl 0 0 n n), (1, sl 1 0 0 0), (5, sl (q' + (M.length + 1 + 1 + 1 + 1 + 1 + 1 + 1)) 0 (q' + M.length) (q' + M.length)), (21, iv n), (22, iv ((i : Int) + 1))]) (σ' := [(0, sl 0 0 n n), (1, sl 1 0 0 0), (5, sl 2 0 (q' + M.length) (q' + M.length)), (21, iv n), (22, iv ((i : Int) + 1))])
              (by simp only [List.length_cons, List.length_nil]; omega) (by simp only [List.length_cons, List.length_nil]; omega) (by omega) (.inl rfl) (fun f h0 h1 h2 => by simp [renT, renV_sl, renV_int, dep, h0, h1, h2])
            rw [hQ] at s3
            simp only [lsB, hX, List.cons_append, List.nil_append] at s3
            have hLM : (L ++ M).length = q' + M.length := by simp [hq]
            rw [hLM] at this
            generalize (L ++ M).map nB = Q2 at s3 this
            generalize slS 3 (L ++ M) = X2 at s3 this
            simp (maxSteps := 1000000) (disch := first | omega | decide | assumption | simp [scal]) [lenA_sl lk_24, lenA_sl lk_22, o_indexAddrS es_49, ze_49, o_buildSlice es_49 ze_49 (by decide) ba_49_1, o_indexAddrS es_24, loadA_eq ia_3, ze_24, o_buildSlice es_24 ze_24 (by decide) ba_24_0, ap_24, builtin_append ni_24, o_buildSlice es_24 ze_24 (by decide) ba_24_1, ap_49, builtin_append ni_49, want_some q36_52g1, -sweep_eq, e0, e1, lb, s1, s2, s3, append_some ap_24, append_some ap_49, hl, g0, g1, t0, t1, nn, dl, c3, c4, src_zero, app_zero, c5, c6, cG, this]
        · have cG := ho (.cells A 2 true true :: .cells [] 1 true true :: .cells X 1 false true :: (Q ++ [.dead, .cells [iv i] 1 true true, .cells [iv i] 1 true true])) 0 (q' + 5) rfl (by simp [g1, nB, nm_one]) (by omega)
          have hlen : (Blk.cells A 2 true true :: .cells [] 1 true true :: .cells X 1 false true :: (Q ++ [.dead, .cells [iv i] 1 true true, .cells [iv i] 1 true true])).length = q' + 6 := by simp [hl]
          rw [hlen] at cG
          have hBl : ([] ++ [i]).length = 1 := rfl
          rw [hBl] at cG
          simp only [List.cons_append, List.append_assoc, List.nil_append, nn, Nat.reduceAdd] at cG
          have c5 := fun K0 K1 K2 x1 x2 x3 R => src_all (h := K0 :: K1 :: K2 :: (Q ++ (x1 :: x2 :: x3 :: .cells [sl (q' + 5) 0 1 1] 1 false true :: R))) (b := q' + 6) (n := 1) (c := 1) (cs := [sl (q' + 5) 0 1 1]) (flat := false) (own := true) (by simp [g1]) rfl (by omega)
          have c6 := fun hp rd => app_many (h := hp) (b := 2) (c := q') (by' := 24) (l := q') (n := 1) (cs := X) (new := [sl (q' + 5) 0 1 1]) (rd := rd) (flat := false) (fl := false) (by rw [← hX, slS_len, hq]) (by omega) (by omega) (by omega) rfl
          have hs : ([sl (q' + 5) 0 1 1] : List Value).all scal = false := rfl
          rw [hs] at c5
          simp only [Bool.or_false, Bool.and_false] at c5 c6
          have s3 := sw_o (A := A) (N := []) (L := L) (O := [] ++ [i]) (y := .cells [sl (q' + 5) 0 1 1] 1 false true) (J := [.dead, .cells [iv i] 1 true true]) (p := q' + 7) (p' := q' + 5) (σ := [(0, sl 0 0 n n), (1, sl 1 0 0 0), (5, sl (q' + 7) 0 (q' + 1) (q' + 1)), (21, iv n), (22, iv ((i : Int) + 1))]) (σ' := [(0, sl 0 0 n n), (1, sl 1 0 0 0), (5, sl 2 0 (q' + 1) (q' + 1)), (21, iv n), (22, iv ((i : Int) + 1))])
            (by simp only [List.length_cons, List.length_nil]; omega) (by simp only [List.length_cons, List.length_nil]; omega) (by omega) (.inl rfl) (fun f h0 h1 h2 => by simp [renT, renV_sl, renV_int, dep, h0, h1, h2])
          rw [hQ, hBl] at s3
          rw [hZ] at this
          have hLM : (L ++ [[] ++ [i]]).length = q' + 1 := by simp [hq]
          rw [hLM] at this
          generalize (L ++ [[] ++ [i]]).map nB = Q2 at s3 this
          simp only [lsB, hX] at s3
          generalize slS 3 (L ++ [[] ++ [i]]) = X2 at s3 this
          simp only [nB, nm_one, List.cons_append, List.nil_append] at s3
          simp (maxSteps := 1000000) (disch := first | omega | decide | assumption | simp [scal]) [lenA_sl lk_24, lenA_sl lk_22, o_indexAddrS es_49, ze_49, o_buildSlice es_49 ze_49 (by decide) ba_49_1, o_indexAddrS es_24, loadA_eq ia_3, ze_24, o_buildSlice es_24 ze_24 (by decide) ba_24_0, ap_24, builtin_append ni_24, o_buildSlice es_24 ze_24 (by decide) ba_24_1, ap_49, builtin_append ni_49, want_some q36_52g1, -sweep_eq, e0, e1, lb, s1, s2, s3, append_some ap_24, append_some ap_49, hl, g0, g1, t0, t1, nn, dl, src_zero, app_zero, c3, c4, c5, c6, cG, this]
    · rw [hu] at lb this
      rw [cond_true, List.append_nil] at this
      simp only [lsB, nB, Int.natCast_zero] at s1 s2 lb this ⊢
      generalize L.map (fun L => Blk.cells (nm L) 1 true true) = Q at *
      generalize Z.map (fun L => Blk.cells (nm L) 1 true true) = QZ at *
      generalize slS 3 L = X at *
      generalize slS 3 Z = XZ at *
      generalize nm B = N at *
      rw [lpB_eq]
      simp (maxSteps := 1000000) (disch := first | omega | decide | assumption | simp [scal]) [lenA_sl lk_24, lenA_sl lk_22, o_indexAddrS es_49, ze_49, o_buildSlice es_49 ze_49 (by decide) ba_49_1, o_indexAddrS es_24, loadA_eq ia_3, ze_24, o_buildSlice es_24 ze_24 (by decide) ba_24_0, ap_24, builtin_append ni_24, o_buildSlice es_24 ze_24 (by decide) ba_24_1, ap_49, builtin_append ni_49, want_some q36_52g1, -sweep_eq, e0, e1, lb, s1, s2, this]
end
end Go.Proofs.Ytfccmddkblbeoaa.rk
namespace Go.Proofs.Ytfccmddkblbeoaa.rk
open Go.GE
set_option linter.unusedVariables false
set_option linter.unusedSimpArgs false
set_option linter.unusedSectionVars false
set_option maxRecDepth 100000
set_option maxHeartbeats 4000000
attribute [local simp] runOps_nil runOps_cons runOpsF_nil runOpsF_cons fstS_some fstF_some opStep_eq want_none oStep_true oStep_false fin_pure fin_read fin_alloc fin_write storeB wrN cellV addWr o_move o_assign o_pick o_alloc o_box o_load o_store o_nilCheck o_bin o_un o_extract o_callV o_callB o_callI callV_f callV_y callV_fc o_makeFunc partsA Instr.fill builtin_len builtin_max2 bin_add bin_sub bin_mul bin_quo bin_rem bin_lss bin_leq bin_gtr bin_geq bin_eql bin_neq un_neg un_not bin_shr bin_shl wrap_u64_id opd opds optAll putO nbeq nblt constOk isC ops sub cl cr co bodyOf thenS_normal thenS_ret thenS_exit thenS_goto afterN_normal afterN_ret afterN_exit afterN_goto condS_true condS_false blockS_normal blockS_ret blockS_exit blockS_goto headS normS normK_eq fixS_nil fixS_cons fix1 fixV emptyB keepO_nil keepO_cons roundC_normal roundC_exit roundC_ret roundC_goto sweep_eq sweepD rnm pickR pickW rootsB ptrT renT ptrFn renFn ptrB_flat ptrB_non renB_flat renB_non plainS_some drawS_some fpsOk disj unord range' dropTo enumT undef wrap_i64_id Value.cells mkCells ptrTo scal cellsAt rdN endS_ret resultsA Option.bind_some tupV finish reachN dep ptrL_eq ptrL renL_eq renL ptrV_bool ptrV_int ptrV_string ptrV_nilFunc ptrV_nilIface ptrV_nilPtr ptrV_ptr ptrV_nilSl ptrV_sl ptrV_iface ptrV_agg ptrV_tuple ptrV_func renV_bool renV_int renV_string renV_nilFunc renV_nilIface renV_nilPtr renV_ptr renV_nilSl renV_sl renV_iface renV_agg renV_tuple renV_func gotoS_goto gotoS_normal gotoS_exit gotoS_ret skip_seq sliceE bnd bndHi intOf optOpd keepT_nil keepT_cons keepC_t keepC_f lk_nil lk_cons lkC_t lkC_f has_nil has_cons hasC_t hasC_f rep_nil rep_cons repC_t repC_f put_eq putC_t putC_f mem_nil mem_cons memC_t memC_f idx_nil idx_cons idxC_t idxC_f reach_nil reachP_cons reachQ_t reachQ_f ptrB_dead renB_dead ins_eq
attribute [local simp] n36_1s n36_4s n36_8s n36_11s n36_12s n36_10s n36_13s n36_9s n36_7s n36_15s n36_16s n36_14s n36_6s n36_17s n36_5s n36_3s n36_19s n36_22s n36_26s n36_29s n36_30s n36_28s n36_34s n36_36s n36_39s n36_43s n36_46s n36_47s n36_45s n36_51s n36_52s n36_50s n36_49s n36_53s n36_48s n36_44s n36_42s n36_41s n36_41g n36_40s n36_38s n36_55s n36_57s n36_58s n36_56s n36_54s n36_37s n36_35s n36_33s n36_32s n36_59s n36_31s n36_27s n36_25s n36_24s n36_24g n36_23s n36_21s n36_61s n36_62s n36_60s n36_20s n36_18s n36_2s n36_0s Try.f36
theorem nB_all {g : Nat → Option Nat} : ∀ (M : List (List Nat)), optAll (renB g) (M.map nB) = some (M.map nB) := by
  intro M
  induction M with
  | nil => rfl
  | cons O M ih => simp only [List.map_cons, optAll, renB_flat, ih]
/-- a call of two arguments that answers a list of lists -/
theorem callL_2 {f : FuncId} {args args' : List Value} {h : List Blk} {b1 b2 : Nat} {k1 k2 : Blk} (M : List (List Nat)) (hp : args.flatMap (ptrV dep) = [b1, b2]) (hb1 : h[b1]? = some k1) (hb2 : h[b2]? = some k2) (hne : b1 ≠ b2) (hn1 : noIdB k1) (hn2 : noIdB k2)
    (hr : optAll (renV (idx [b1, b2]) dep) args = some args') (he : LL.run f args' [k1, k2] = some ⟨sl 2 0 M.length M.length, lsB 3 M :: M.map nB, []⟩) (hk : idle LL f args) :
    callH LL f args h = some ⟨sl h.length 0 M.length M.length, h ++ lsB (h.length + 1) M :: M.map nB, [b1, b2], []⟩ := by
  refine callH_of hk ?_ (by have g1 := (List.getElem?_eq_some_iff.1 hb1).1; have g2 := (List.getElem?_eq_some_iff.1 hb2).1; intro b hb; simp at hb; rcases hb with rfl | rfl <;> assumption)
  unfold callH0
  rw [hp, reach_two hb1 hb2 hne hn1.2 hn2.2 (by decide)]
  simp only [hr, optAll, hb1, hb2, hn1.1, hn2.1, he]
  have hs : ∀ g : Nat → Option Nat, (∀ j, j < M.length → g (3 + j) = some (h.length + 1 + j)) → renB g (lsB 3 M) = some (lsB (h.length + 1) M) := by
    intro g hg
    rw [renB_non, slS_ren M 3 (h.length + 1) hg]
    rfl
  unfold mergeB
  simp only [dep, renV_sl, optAll]
  rw [hs _ (fun j hj => by
    have e1 : Nat.blt (3 + j) 2 = false := by rw [nblt]; simp; omega
    show (bif Nat.blt (3 + j) 2 then [b1, b2][3 + j]? else some (h.length + (3 + j - 2))) = _
    rw [e1, cond_false]
    exact congrArg some (by omega)), nB_all M]
  rfl
theorem callZ_2 {f : FuncId} {args args' : List Value} {h : List Blk} {b1 b2 n : Nat} {k1 k2 : Blk} (hp : args.flatMap (ptrV dep) = [b1, b2]) (hb1 : h[b1]? = some k1) (hb2 : h[b2]? = some k2) (hne : b1 ≠ b2) (hn1 : noIdB k1) (hn2 : noIdB k2)
    (hr : optAll (renV (idx [b1, b2]) dep) args = some args') (he : LL.run f args' [k1, k2] = some ⟨sl 2 0 1 1, [.cells [sl 1 0 n n] 1 false true], []⟩) (hk : idle LL f args) :
    callH LL f args h = some ⟨sl h.length 0 1 1, h ++ [.cells [sl b2 0 n n] 1 false true], [b1, b2], []⟩ := by
  refine callH_of hk ?_ (by have g1 := (List.getElem?_eq_some_iff.1 hb1).1; have g2 := (List.getElem?_eq_some_iff.1 hb2).1; intro b hb; simp at hb; rcases hb with rfl | rfl <;> assumption)
  unfold callH0
  rw [hp, reach_two hb1 hb2 hne hn1.2 hn2.2 (by decide)]
  simp only [hr, optAll, hb1, hb2, hn1.1, hn2.1, he]
  rfl
theorem finish_to {base : Nat} {v v' : Value} {H news : List Blk} {δ : List Nat} (hr : reach H base reachN (ptrV dep v) [] = δ) (hv : renV (rnm base δ) dep v = some v') (hb : optAll (pickR base δ H) δ = some news) : finish base v H [] = some ⟨v', news, []⟩ := by
  unfold finish
  simp only [List.flatMap_nil, List.append_nil, hr]
  show (match renV (rnm base δ) dep v, optAll (pickR base δ H) δ, (some [] : Option (List (Nat × Blk))) with
    | some v', some news, some ws => some (⟨v', news, ws⟩ : RR)
    | _, _, _ => none) = _
  rw [hv, hb]
theorem fin_L {K0 K1 : Blk} {Z : List (List Nat)} (h5 : Z.length ≤ 50000) : finish 2 (sl 2 0 Z.length Z.length) (K0 :: K1 :: lsB 3 Z :: Z.map nB) [] = some ⟨sl 2 0 Z.length Z.length, lsB 3 Z :: Z.map nB, []⟩ := by
  have hr : reach (K0 :: K1 :: lsB 3 Z :: Z.map nB) 2 reachN [2] [] = 2 :: rgN 3 Z.length := by
    rw [show reachN = 99999 + 1 from rfl, reach_new (blk := lsB 3 Z) (by omega) (by simp) rfl, ptrB_non, slS_ptr, reach_rg _ _ _ _ (by omega) (by omega) ?_, reach_nil]
    · rfl
    · intro j a b
      obtain ⟨i, rfl⟩ : ∃ i, j = i + 1 + 1 + 1 := ⟨j - 3, by omega⟩
      have hj : i < Z.length := by omega
      refine ⟨⟨nB Z[i], ?_, ptrB_flat⟩, by simp⟩
      simp only [List.getElem?_cons_succ]
      exact map_at (List.getElem?_eq_getElem hj)
  have f2 : rnm 2 (2 :: rgN 3 Z.length) 2 = some 2 := rfl
  have fL : ∀ j, j < Z.length → rnm 2 (2 :: rgN 3 Z.length) (3 + j) = some (3 + j) := by
    intro j hj
    have := idx_rgN (r := []) Z.length 3 j hj
    rw [List.append_nil] at this
    unfold rnm
    rw [nblt, decide_eq_false (by omega), cond_false, idx_cons, nbeq, decide_eq_false (by omega), idxC_f, this]
    simp only [Option.map_some]; congr 1; omega
  have hb : optAll (pickR 2 (2 :: rgN 3 Z.length) (K0 :: K1 :: lsB 3 Z :: Z.map nB)) (2 :: rgN 3 Z.length) = some (lsB 3 Z :: Z.map nB) := by
    have h2 : pickR 2 (2 :: rgN 3 Z.length) (K0 :: K1 :: lsB 3 Z :: Z.map nB) 2 = some (lsB 3 Z) := by
      unfold pickR
      simp only [List.getElem?_cons_succ, List.getElem?_cons_zero]
      rw [renB_non, slS_ren Z 3 3 fL]
      rfl
    simp only [optAll, h2]
    rw [pick_rg Z 3 (fun j O h => by rw [show 3 + j = j + 1 + 1 + 1 by omega]; simp only [List.getElem?_cons_succ]; exact map_at h)]
  have hv : renV (rnm 2 (2 :: rgN 3 Z.length)) dep (sl 2 0 Z.length Z.length) = some (sl 2 0 Z.length Z.length) := rfl
  exact finish_to hr hv hb
/-- the orders that go on from some days, as they are tried -/
def oFL (l : Nat → Int × Int) (n : Nat) : Nat → List Nat → List (List Nat)
  | 0, B => cond (risL l (ntAt B) n 0 0) [B] []
  | k + 1, B => apS (gF B (fun i => oFL l n k (B ++ [i]))) n 0
theorem apS_bound {F : Nat → List (List Nat)} {c : Nat} (h : ∀ i, (F i).length ≤ c) : ∀ q i, (apS F q i).length ≤ q * c := by
  intro q
  induction q with
  | zero => intro i; simp [apS]
  | succ q ih =>
    intro i
    have := ih (i + 1)
    have := h i
    simp only [apS, List.length_append, Nat.succ_mul]; omega
theorem oFL_bound {l : Nat → Int × Int} {n : Nat} (hn : n ≤ 5) : ∀ k B, (oFL l n k B).length ≤ 5 ^ k := by
  intro k
  induction k with
  | zero => intro B; unfold oFL; cases risL l (ntAt B) n 0 0 <;> simp
  | succ k ih =>
    intro B
    unfold oFL
    have := apS_bound (F := gF B (fun i => oFL l n k (B ++ [i]))) (c := 5 ^ k) (fun i => by
      unfold gF
      cases ucL B i B.length 0 false
      · exact ih _
      · simp) n 0
    have h2 : n * 5 ^ k ≤ 5 * 5 ^ k := Nat.mul_le_mul_right _ hn
    rw [Nat.pow_succ]; omega
section
variable {cs : List Value} {l : Nat → Int × Int} {n : Nat} (hc : SpC cs 0 n l) (hn : n ≤ 5)
include hc hn
theorem c36z {B : List Nat} (hB : B.length = n) (hx : ∀ x, x ∈ B → x < n) :
    LL.run 36 [sl 0 0 n n, sl 1 0 n n] [.cells cs 2 true true, nB B] = if risL l (ntAt B) n 0 0 = true then some ⟨sl 2 0 1 1, [.cells [sl 1 0 n n] 1 false true], []⟩ else some ⟨sl 2 0 0 0, [.cells [] 1 false true], []⟩ := by
  have hi := nm_C B
  rw [hB] at hi
  have a := fun bx => k51 0 0 n n 1 0 n n (h := .cells cs 2 true true :: nB B :: bx) rfl rfl (by decide) hc hi (by omega) (fun j hj => by
    have : B.getD j 0 ∈ B := by rw [List.getD_eq_getElem?_getD, List.getElem?_eq_getElem (by omega)]; exact List.getElem_mem _
    have := hx _ this
    unfold ntAt
    omega)
  cases hr : risL l (ntAt B) n 0 0
  · rw [if_neg (by decide)]
    refine go (by decide) ?_
    rw [run36 _ _ _ (by simp)]
    rw [hr] at a
    simp only [nB] at a ⊢
    simp (maxSteps := 1000000) (disch := first | omega | decide | assumption | simp [scal]) [lenA_sl lk_24, lenA_sl lk_22, o_indexAddrS es_49, ze_49, o_buildSlice es_49 ze_49 (by decide) ba_49_1, o_indexAddrS es_24, loadA_eq ia_3, ze_24, o_buildSlice es_24 ze_24 (by decide) ba_24_0, ap_24, builtin_append ni_24, o_buildSlice es_24 ze_24 (by decide) ba_24_1, ap_49, builtin_append ni_49, want_some q36_52g1, a]
  · rw [if_pos rfl]
    refine go (by decide) ?_
    rw [run36 _ _ _ (by simp)]
    rw [hr] at a
    simp only [nB] at a ⊢
    simp (maxSteps := 1000000) (disch := first | omega | decide | assumption | simp [scal]) [lenA_sl lk_24, lenA_sl lk_22, o_indexAddrS es_49, ze_49, o_buildSlice es_49 ze_49 (by decide) ba_49_1, o_indexAddrS es_24, loadA_eq ia_3, ze_24, o_buildSlice es_24 ze_24 (by decide) ba_24_0, ap_24, builtin_append ni_24, o_buildSlice es_24 ze_24 (by decide) ba_24_1, ap_49, builtin_append ni_49, want_some q36_52g1, a]
theorem k36 : ∀ (k : Nat) (B : List Nat), B.length + k = n → (∀ x, x ∈ B → x < n) → O36 n cs B (oFL l n k B) ∨ Z36 n cs B ∧ oFL l n k B = [B] ∧ k = 0 := by
  intro k
  induction k with
  | zero =>
    intro B hB hx
    have hB' : B.length = n := by omega
    have c := c36z hc hn hB' hx
    unfold oFL O36 Z36
    rw [hB']
    cases hr : risL l (ntAt B) n 0 0
    · rw [hr, if_neg (by decide)] at c
      refine .inl fun h b1 b2 h1 h2 hne => ?_
      exact callL_2 (M := []) rfl h1 h2 hne noIdB_flat noIdB_flat (so_ren hne rfl) c fun _ => rfl
    · rw [hr, if_pos rfl] at c
      refine .inr ⟨fun h b1 b2 h1 h2 hne => ?_, rfl, rfl⟩
      exact callZ_2 rfl h1 h2 hne noIdB_flat noIdB_flat (so_ren hne rfl) c fun _ => rfl
  | succ k ih =>
    intro B hB hx
    have hp : (5 : Nat) ^ k ≤ 5 ^ 4 := Nat.pow_le_pow_right (by decide) (by omega)
    have lp := l36 n B.length cs (B := B) rfl (by omega) hn (fun i => oFL l n k (B ++ [i])) (fun i hi => by
      have := oFL_bound (l := l) hn k (B ++ [i])
      have e : (5 : Nat) ^ 4 = 625 := rfl
      omega) (fun i hi hu => by
      rcases ih (B ++ [i]) (by simp; omega) (fun x hx' => by
        simp only [List.mem_append, List.mem_singleton] at hx'
        rcases hx' with h | rfl
        · exact hx x h
        · exact hi) with h | ⟨h, h', _⟩
      · exact .inl h
      · exact .inr ⟨h, h'⟩) n 0 [] (by omega) (by simp)
    rw [List.nil_append] at lp
    have hb := oFL_bound (l := l) hn (k + 1) B
    have hp' : (5 : Nat) ^ (k + 1) ≤ 5 ^ 5 := Nat.pow_le_pow_right (by decide) (by omega)
    have e5 : (5 : Nat) ^ 5 = 3125 := rfl
    have hZ : oFL l n (k + 1) B = apS (gF B (fun i => oFL l n k (B ++ [i]))) n 0 := rfl
    rw [← hZ] at lp
    generalize oFL l n (k + 1) B = Z at *
    have hbn : ¬ B.length = n := by omega
    have hbn' : ¬ (B.length : Int) = n := by omega
    have f1 := fin_L (K0 := .cells cs 2 true true) (K1 := nB B) (Z := Z) (by omega)
    have c : LL.run 36 [sl 0 0 n n, sl 1 0 B.length B.length] [.cells cs 2 true true, nB B] = some ⟨sl 2 0 Z.length Z.length, lsB 3 Z :: Z.map nB, []⟩ := by
      refine go (by decide) ?_
      rw [run36 _ _ _ (by simp)]
      have s1 := sw36 (A := cs) (N := nm B) (L := Z) (by omega) [(4, sl 2 0 Z.length Z.length)] (.inr (.inl rfl)) (fun f h0 h1 h2 => by simp [renT, renV_sl, dep, h2])
      have s0 := sw36 (A := cs) (N := nm B) (L := []) (by simp) [(0, sl 0 0 n n), (1, sl 1 0 B.length B.length), (5, sl 2 0 0 0), (21, iv n), (22, iv 0)] (.inl rfl) (fun f h0 h1 h2 => by simp [renT, renV_sl, renV_int, dep, h0, h1, h2])
      simp only [lsB, nB, slS, List.length_nil, List.map_nil, Int.natCast_zero] at lp s0 s1 f1 ⊢
      generalize Z.map (fun L => Blk.cells (nm L) 1 true true) = QZ at *
      generalize slS 3 Z = XZ at *
      generalize nm B = N at *
      simp (maxSteps := 1000000) (disch := first | omega | decide | assumption | simp [scal]) [lenA_sl lk_24, lenA_sl lk_22, o_indexAddrS es_49, ze_49, o_buildSlice es_49 ze_49 (by decide) ba_49_1, o_indexAddrS es_24, loadA_eq ia_3, ze_24, o_buildSlice es_24 ze_24 (by decide) ba_24_0, ap_24, builtin_append ni_24, o_buildSlice es_24 ze_24 (by decide) ba_24_1, ap_49, builtin_append ni_49, want_some q36_52g1, -sweep_eq, -finish, lp, s0, s1, f1, hbn, hbn']
    exact .inl fun h b1 b2 h1 h2 hne => callL_2 Z rfl h1 h2 hne noIdB_flat noIdB_flat (so_ren hne rfl) c fun _ => rfl
end
end Go.Proofs.Ytfccmddkblbeoaa.rk
namespace Go.Proofs.Ytfccmddkblbeoaa.rk
open Go.GE
set_option linter.unusedVariables false
set_option linter.unusedSimpArgs false
set_option linter.unusedSectionVars false
set_option maxRecDepth 100000
set_option maxHeartbeats 4000000
theorem apS_congr {F G : Nat → List (List Nat)} : ∀ q i, (∀ j, i ≤ j → j < i + q → F j = G j) → apS F q i = apS G q i := by
  intro q
  induction q with
  | zero => intro i _; rfl
  | succ q ih =>
    intro i h
    simp only [apS, h i (by omega) (by omega), ih (i + 1) fun j a b => h j (by omega) (by omega)]
theorem apS_filter {F : Nat → List (List Nat)} {p : List Nat → Bool} : ∀ q i, (apS F q i).filter p = apS (fun j => (F j).filter p) q i := by
  intro q
  induction q with
  | zero => intro i; rfl
  | succ q ih => intro i; simp only [apS, List.filter_append, ih]
theorem apS_map {F : Nat → List (List Nat)} {f : List Nat → List Nat} : ∀ q i, (apS F q i).map f = apS (fun j => (F j).map f) q i := by
  intro q
  induction q with
  | zero => intro i; rfl
  | succ q ih => intro i; simp only [apS, List.map_append, ih]
def nx0 (M i : Nat) : Bool := !M.testBit i
/-- a way on, as a test -/
def pthB (nx : Nat → Nat → Bool) : Nat → List Nat → Bool
  | _, [] => true
  | M, i :: O => nx M i && pthB nx (M ||| 2 ^ i) O
theorem ords_filter {nx : Nat → Nat → Bool} (hnx : ∀ M i, nx M i = true → M.testBit i = false) {n : Nat} : ∀ k M, ords nx n k M = (ords nx0 n k M).filter (pthB nx M) := by
  intro k
  induction k with
  | zero => intro M; rfl
  | succ k ih =>
    intro M
    simp only [ords, apS_filter]
    refine apS_congr n 0 fun i _ _ => ?_
    cases h : nx M i
    · have hf : ∀ X : List (List Nat), (X.map (i :: ·)).filter (pthB nx M) = [] := by
        intro X
        rw [List.filter_map]
        have e : (pthB nx M ∘ fun x => i :: x) = fun _ => false := by funext O; simp only [Function.comp, pthB, h, Bool.false_and]
        rw [e]
        simp
      cases nx0 M i
      · rfl
      · exact (hf _).symm
    · have h0 : nx0 M i = true := by unfold nx0; rw [hnx M i h]; rfl
      rw [h0]
      simp only [cond_true]
      rw [List.filter_map, ih]
      have e : (pthB nx M ∘ fun x => i :: x) = pthB nx (M ||| 2 ^ i) := by funext O; simp only [Function.comp, pthB, h, Bool.true_and]
      rw [e]
theorem pthB_iff {nx : Nat → Nat → Bool} {n : Nat} : ∀ (O : List Nat) (M : Nat), pth nx n M O ↔ (∀ x, x ∈ O → x < n) ∧ pthB nx M O = true := by
  intro O
  induction O with
  | nil => intro M; simp [pth, pthB]
  | cons i O ih =>
    intro M
    simp only [pth, pthB, ih, Bool.and_eq_true, List.mem_cons, forall_eq_or_imp]
    constructor
    · rintro ⟨a, b, c, d⟩; exact ⟨⟨a, c⟩, b, d⟩
    · rintro ⟨⟨a, c⟩, b, d⟩; exact ⟨a, b, c, d⟩
/-- the set of some days -/
def mkS (B : List Nat) : Nat := B.foldl (fun M i => M ||| 2 ^ i) 0
theorem mkS_app {B : List Nat} {i : Nat} : mkS (B ++ [i]) = mkS B ||| 2 ^ i := by simp [mkS]
theorem foldl_bit {t : Nat} : ∀ (B : List Nat) (M : Nat), (B.foldl (fun M i => M ||| 2 ^ i) M).testBit t = (M.testBit t || decide (t ∈ B)) := by
  intro B
  induction B with
  | nil => intro M; simp
  | cons i B ih =>
    intro M
    rw [List.foldl_cons, ih, bit_or, Bool.or_assoc]
    congr 1
    by_cases h : i = t
    · subst h; simp
    · have h' : ¬ t = i := fun e => h e.symm
      simp [h, h']
theorem mkS_bit {B : List Nat} {t : Nat} : (mkS B).testBit t = decide (t ∈ B) := by unfold mkS; rw [foldl_bit, Nat.zero_testBit, Bool.false_or]
theorem ucL_eq {B : List Nat} {i : Nat} : ∀ k j u, j + k = B.length → ucL B i k j u = (u || decide (i ∈ B.drop j)) := by
  intro k
  induction k with
  | zero => intro j u h; rw [List.drop_eq_nil_of_le (by omega)]; simp [ucL]
  | succ k ih =>
    intro j u h
    have hj : j < B.length := by omega
    have e : B.getD j 0 = B[j] := by simp [hj]
    unfold ucL
    rw [ih (j + 1) _ (by omega), List.drop_eq_getElem_cons hj, e, Bool.or_assoc]
    congr 1
    by_cases h : B[j] = i
    · rw [decide_eq_true h, Bool.true_or]
      exact (decide_eq_true (List.mem_cons.2 (.inl h.symm))).symm
    · have h' : ¬ i = B[j] := fun e => h e.symm
      rw [decide_eq_false h, Bool.false_or]
      exact decide_eq_decide.2 ⟨fun hm => List.mem_cons.2 (.inr hm), fun hm => (List.mem_cons.1 hm).resolve_left h'⟩
theorem oFL_eq {l : Nat → Int × Int} {n : Nat} : ∀ k B, oFL l n k B = ((ords nx0 n k (mkS B)).map (B ++ ·)).filter (fun O => risL l (ntAt O) n 0 0) := by
  intro k
  induction k with
  | zero =>
    intro B
    simp only [oFL, ords, List.map_cons, List.map_nil, List.append_nil, List.filter_cons, List.filter_nil]
    cases risL l (ntAt B) n 0 0 <;> rfl
  | succ k ih =>
    intro B
    simp only [oFL, ords, apS_map, apS_filter]
    refine apS_congr n 0 fun i _ _ => ?_
    unfold gF
    rw [ucL_eq _ _ _ (by omega), List.drop_zero, Bool.false_or]
    by_cases h : i ∈ B
    · have h0 : nx0 (mkS B) i = false := by simp [nx0, mkS_bit, h]
      simp [h, h0]
    · have h0 : nx0 (mkS B) i = true := by simp [nx0, mkS_bit, h]
      simp only [h, decide_false, cond_false, h0, cond_true, ih, mkS_app, List.map_map]
      congr 2
      funext O
      simp
theorem perm_of {O : List Nat} {n : Nat} (h1 : O.Nodup) (h2 : ∀ x, x ∈ O → x < n) (h3 : O.length = n) : O.Perm (List.range n) :=
  (List.perm_ext_iff_of_nodup h1 List.nodup_range).2 fun a => ⟨fun h => List.mem_range.2 (h2 a h), fun h => full_mem h1 h2 h3 (List.mem_range.1 h)⟩
theorem nx0_pth {n : Nat} : ∀ (O : List Nat) (M : Nat), pth nx0 n M O → (∀ x, x ∈ O → x < n ∧ M.testBit x = false) ∧ O.Nodup := by
  intro O
  induction O with
  | nil => intro M _; simp
  | cons i O ih =>
    rintro M ⟨h1, h2, h3⟩
    obtain ⟨g1, g2⟩ := ih _ h3
    have hb : M.testBit i = false := by simpa [nx0] using h2
    refine ⟨fun x hx => ?_, List.nodup_cons.2 ⟨fun hm => ?_, g2⟩⟩
    · rcases List.mem_cons.1 hx with rfl | hx
      · exact ⟨h1, hb⟩
      · have := g1 x hx
        rw [bit_or, Bool.or_eq_false_iff] at this
        exact ⟨this.1, this.2.1⟩
    · have := (g1 i hm).2
      rw [bit_or] at this
      simp at this
theorem all_ords {A : List (Int × Int)} {n : Nat} (H : OkM A) (hA : A.length = n) (n5 : n ≤ 5) : oFL (spAt A) n n [] = ords (nxB (spAt A) n) n n 0 := by
  rw [oFL_eq, ords_filter (nx := nxB (spAt A) n) (fun M i h => nxB_bit h)]
  have e : (fun O : List Nat => ([] : List Nat) ++ O) = id := by funext O; rfl
  rw [e, List.map_id]
  show List.filter _ (ords nx0 n n 0) = _
  refine List.filter_congr fun O hO => ?_
  obtain ⟨hl, hp⟩ := (ords_mem _ _ _).1 hO
  obtain ⟨g1, g2⟩ := nx0_pth _ _ hp
  have S : MO A O n := ⟨H, hA, hl, n5, perm_of g2 (fun x hx => (g1 x hx).1) hl⟩
  have hq : ∀ i, i < n → quiet (spAt A) i i = false := quiet_self H hA
  have h1 : pthB (nxB (spAt A) n) 0 O = true ↔ O ∈ ords (nxB (spAt A) n) n n 0 := by
    rw [ords_mem, pthB_iff]
    exact ⟨fun h => ⟨hl, fun x hx => (g1 x hx).1, h⟩, fun h => h.2.2⟩
  rw [Bool.eq_iff_iff, h1, full_iff hq, ris_eq S]
  constructor
  · intro h
    refine ⟨hl, fun x hx => (g1 x hx).1, g2, List.pairwise_iff_getElem.2 fun i j hi hj hij => ?_⟩
    have := h i j hij (by omega)
    unfold qt at this
    simpa [hi, hj] using this
  · rintro ⟨_, _, _, h⟩ i j hij hj
    have := List.pairwise_iff_getElem.1 h i j (by omega) (by omega) hij
    unfold qt
    simpa [show i < O.length by omega, show j < O.length by omega] using this
section
variable {nx : Nat → Nat → Bool} (hnx : ∀ M i, nx M i = true → M.testBit i = false) {n : Nat}
def FO (nx : Nat → Nat → Bool) (n k M i : Nat) : List (List Nat) := cond (nx M i) ((ords nx n k (M ||| 2 ^ i)).map (i :: ·)) []
include hnx
end
theorem sel_get {l : Nat → Int × Int} {n k M : Nat} {O : List Nat} : ∀ (q i x : Nat), selK l n M q i = some x → (FO (nxB l n) n k M x)[0]? = some O → (apS (FO (nxB l n) n k M) q i)[0]? = some O := by
  intro q
  induction q with
  | zero => intro i x h; cases h
  | succ q ih =>
    intro i x h hO
    simp only [selK] at h
    simp only [apS]
    by_cases hx : nxB l n M i = true
    · rw [if_pos hx] at h
      cases h
      have := (List.getElem?_eq_some_iff.1 hO).1
      rw [List.getElem?_append_left this, hO]
    · rw [if_neg hx] at h
      have e : FO (nxB l n) n k M i = [] := by unfold FO; rw [Bool.not_eq_true] at hx; rw [hx]; rfl
      rw [e, List.nil_append]
      exact ih _ _ h hO
theorem fs_get {l : Nat → Int × Int} {n : Nat} (hl : ∀ i, i < n → (l i).1 ≤ (l i).2) : ∀ (k M : Nat), cntU n M = k → (ords (nxB l n) n k M)[0]? = some (fsL l n k M) := by
  intro k
  induction k with
  | zero => intro M _; rfl
  | succ k ih =>
    intro M hM
    obtain ⟨r, h1, h2, h3, h4⟩ := sel_succ hl hM
    simp only [fsL, h1]
    have hx : nxB l n M r = true := (selK_in n 0 r h1).2.2
    refine sel_get n 0 r h1 ?_
    unfold FO
    rw [hx, cond_true, List.getElem?_map, ih _ h4]
    rfl
end Go.Proofs.Ytfccmddkblbeoaa.rk
namespace Go.Proofs.Ytfccmddkblbeoaa.rk
open Go.GE
set_option linter.unusedVariables false
set_option linter.unusedSimpArgs false
set_option linter.unusedSectionVars false
set_option maxRecDepth 100000
set_option maxHeartbeats 4000000
/-- all orders: no day is told yet -/
theorem k36n {cs : List Value} {l : Nat → Int × Int} {n b : Nat} {h : List Blk} (hb : h[b]? = some (.cells cs 2 true true)) (hc : SpC cs 0 n l) (hn : n ≤ 5) (h1 : 1 ≤ n) :
    callH LL 36 [sl b 0 n n, .slice none 0 0] h = some ⟨sl (h.length + 1) 0 (oFL l n n []).length (oFL l n n []).length, h ++ .cells [] 1 true true :: lsB (h.length + 2) (oFL l n n []) :: (oFL l n n []).map nB, [b], []⟩ := by
  have hlt := (List.getElem?_eq_some_iff.1 hb).1
  have hkk := k36 hc hn n [] (by simp) (by simp)
  rcases hkk with H | ⟨_, _, h0⟩
  · have g := H (h ++ [.cells [] 1 true true]) b h.length (by rw [List.getElem?_append_left hlt]; exact hb) (by simp [nm]) (by omega)
    rw [List.length_append] at g
    have e1 : fixA [⟨0, 0, 2, true⟩, ⟨1, 0, 1, true⟩] [sl b 0 n n, .slice none 0 0] h = ([sl b 0 n n, sl h.length 0 0 0], h ++ [.cells [] 1 true true]) := rfl
    have e2 : fixA [⟨0, 0, 2, true⟩, ⟨1, 0, 1, true⟩] [sl b 0 n n, sl h.length 0 0 0] (h ++ [.cells [] 1 true true]) = ([sl b 0 n n, sl h.length 0 0 0], h ++ [.cells [] 1 true true]) := rfl
    have r := callH_fix (E := LL) (f := 36) (K := ⟨[], [⟨0, 0, 2, true⟩, ⟨1, 0, 1, true⟩]⟩) (by kernel_rfl) e1 e2 (by simp) g
    rw [r]
    have hf : [b, h.length].filter (fun b => Nat.blt b h.length) = [b] := by simp [List.filter_cons, nblt, hlt]
    rw [hf]
    simp
  · omega
section
variable (K0 : Blk) {A : List (Int × Int)} {n : Nat} {M : List (List Nat)} (H : OkM A) (hA : A.length = n) (n5 : n ≤ 5) (hM : M = ords (nxB (spAt A) n) n n 0) (hk : M.length ≤ 5000)
include H hA n5 hM hk
theorem ord_MO {O : List Nat} (h : O ∈ M) : MO A O n ∧ posS (spAt A) n (ntAt O) n = 0 := by
  subst hM
  obtain ⟨h1, h2, h3, h4⟩ := (full_iff (quiet_self H hA)).1 h
  have S : MO A O n := ⟨H, hA, h1, n5, perm_of h3 h2 h1⟩
  refine ⟨S, pos_eq S fun i j hij hj => ?_⟩
  have := List.pairwise_iff_getElem.1 h4 i j (by omega) (by omega) hij
  unfold qt
  simpa [show i < O.length by omega, show j < O.length by omega] using this
end
end Go.Proofs.Ytfccmddkblbeoaa.rk
namespace Go.Proofs.Ytfccmddkblbeoaa.rk
open Go.GE
set_option linter.unusedVariables false
set_option linter.unusedSimpArgs false
set_option linter.unusedSectionVars false
set_option maxRecDepth 100000
set_option maxHeartbeats 4000000
theorem reach_pre {h : List Blk} {base : Nat} {r : List Nat} : ∀ (pre : List Nat) (n : Nat) (acc : List Nat), pre.length ≤ n → pre.Nodup → (∀ b, b ∈ pre → base ≤ b ∧ b ∉ acc ∧ ∃ blk, h[b]? = some blk ∧ ptrB blk = []) →
    reach h base n (pre ++ r) acc = reach h base (n - pre.length) r (acc ++ pre) := by
  intro pre
  induction pre with
  | nil => intro n acc _ _ _; simp
  | cons b pre ih =>
    intro n acc h1 h2 h3
    obtain ⟨n, rfl⟩ : ∃ m, n = m + 1 := ⟨n - 1, by simp at h1; omega⟩
    obtain ⟨g1, g2, blk, g3, g4⟩ := h3 b (by simp)
    obtain ⟨k1, k2⟩ := List.nodup_cons.1 h2
    rw [List.cons_append, reach_new g1 g2 g3, g4, List.nil_append, ih n (acc ++ [b]) (by simp at h1; omega) k2 (fun c hc => by
      obtain ⟨m1, m2, m3⟩ := h3 c (by simp [hc])
      refine ⟨m1, ?_, m3⟩
      simp only [List.mem_append, List.mem_singleton, not_or]
      exact ⟨m2, fun e => k1 (by rw [← e]; exact hc)⟩)]
    rw [List.length_cons, Nat.add_sub_add_right]
    simp
theorem reach_tl {h : List Blk} {base : Nat} : ∀ (r : List Nat) (n : Nat) (acc : List Nat), r.length ≤ n → (∀ b, b ∈ r → b ∈ acc) → reach h base n r acc = acc := by
  intro r
  induction r with
  | nil => intro n acc _ _; exact reach_nil
  | cons b r ih =>
    intro n acc h1 h2
    obtain ⟨n, rfl⟩ : ∃ m, n = m + 1 := ⟨n - 1, by simp at h1; omega⟩
    rw [reach_old (h2 b (by simp))]
    exact ih n acc (by simp at h1; omega) fun c hc => h2 c (by simp [hc])
theorem idx_at {r : List Nat} : ∀ (pre : List Nat) (i b : Nat), pre.Nodup → pre[i]? = some b → idx (pre ++ r) b = some i := by
  intro pre
  induction pre with
  | nil => intro i b _ h; simp at h
  | cons a pre ih =>
    intro i b hn h
    obtain ⟨k1, k2⟩ := List.nodup_cons.1 hn
    simp only [List.cons_append, idx, nbeq]
    cases i with
    | zero => simp at h; subst h; simp
    | succ i =>
      simp only [List.getElem?_cons_succ] at h
      have hm : b ∈ pre := List.mem_of_getElem? h
      have hne : ¬ a = b := fun e => k1 (by rw [e]; exact hm)
      simp only [hne, decide_false, cond_false, ih i b k2 h, Option.map_some]
theorem pick_pre {base : Nat} {δ : List Nat} {H : List Blk} : ∀ (pre : List Nat) (PB : List Blk), pre.map (fun b => H[b]?) = PB.map some → (∀ blk, blk ∈ PB → noIdB blk) → optAll (pickR base δ H) pre = some PB := by
  intro pre
  induction pre with
  | nil =>
    intro PB h _
    cases PB with
    | nil => rfl
    | cons _ _ => simp at h
  | cons b pre ih =>
    intro PB h hn
    cases PB with
    | nil => simp at h
    | cons blk PB =>
      simp only [List.map_cons, List.cons.injEq] at h
      simp only [optAll, pickR, h.1, (hn blk (by simp)).1, ih PB h.2 fun x hx => hn x (by simp [hx])]
theorem sweep_pre {base : Nat} {H : List Blk} {σ σ' : Tm} {M : List (List Nat)} {N p : Nat} (pre : List Nat) (PB : List Blk) (tl : List Nat) (hPB : pre.map (fun b => H[b]?) = PB.map some) (hfl : ∀ blk, blk ∈ PB → noIdB blk) (hnd : pre.Nodup) (hpr : ∀ b, b ∈ pre → base ≤ b ∧ b ≠ N ∧ (b < p ∨ p + M.length ≤ b))
    (hN : H[N]? = some (lsB p M)) (hM : ∀ j O, M[j]? = some O → H[p + j]? = some (nB O)) (h1 : base ≤ N) (h2 : base ≤ p) (h3 : N < p ∨ p + M.length ≤ N) (h5 : M.length ≤ 50000) (h6 : pre.length ≤ 100) (h7 : tl.length ≤ 100)
    (hp : ptrT σ = pre ++ N :: tl) (htl : ∀ b, b ∈ tl → b = N ∨ (p ≤ b ∧ b < p + M.length))
    (hσ : ∀ f : Nat → Option Nat, (∀ i b, pre[i]? = some b → f b = some (base + i)) → f N = some (base + pre.length) → (∀ j, j < M.length → f (p + j) = some (base + pre.length + 1 + j)) → renT f σ = some σ') :
    sweep base ⟨σ, H, []⟩ = some ⟨σ', H.take base ++ (PB ++ lsB (base + pre.length + 1) M :: M.map nB), []⟩ := by
  have hNp : N ∉ pre := fun h => (hpr N h).2.1 rfl
  have hr : reach H base reachN (ptrT σ) [] = pre ++ N :: rgN p M.length := by
    rw [hp, reach_pre pre reachN [] (by unfold reachN; omega) hnd fun b hb => ⟨(hpr b hb).1, by simp, by
      have hb' : ∃ blk, blk ∈ PB ∧ H[b]? = some blk := by
        have : H[b]? ∈ pre.map (fun b => H[b]?) := List.mem_map.2 ⟨b, hb, rfl⟩
        rw [hPB] at this
        obtain ⟨blk, k1, k2⟩ := List.mem_map.1 this
        exact ⟨blk, k1, k2.symm⟩
      obtain ⟨blk, k1, k2⟩ := hb'
      exact ⟨blk, k2, (hfl blk k1).2⟩⟩]
    obtain ⟨n, hn⟩ : ∃ n, reachN - pre.length = n + 1 := ⟨reachN - pre.length - 1, by unfold reachN; omega⟩
    have hn' : 60000 ≤ n := by unfold reachN at hn; omega
    rw [hn, List.nil_append, reach_new h1 hNp hN, ptrB_non, slS_ptr, reach_rg _ _ _ _ h2 (by omega) ?_, reach_tl _ _ _ (by omega) ?_]
    · simp
    · intro b hb
      rcases htl b hb with rfl | ⟨a, c⟩
      · simp
      · simp only [List.mem_append, rgN_mem]
        exact .inr ⟨a, c⟩
    · intro j a b
      obtain ⟨i, rfl⟩ : ∃ i, j = p + i := ⟨j - p, by omega⟩
      refine ⟨⟨_, hM i M[i] (List.getElem?_eq_getElem (by omega)), ptrB_flat⟩, ?_⟩
      simp only [List.mem_append, List.mem_singleton, not_or]
      refine ⟨fun hm => ?_, by omega⟩
      have := (hpr _ hm).2.2
      omega
  generalize hδ : pre ++ N :: rgN p M.length = δ at hr
  have fP : ∀ i b, pre[i]? = some b → rnm base δ b = some (base + i) := by
    intro i b h
    subst hδ
    unfold rnm
    rw [nblt, decide_eq_false (by have := (hpr b (List.mem_of_getElem? h)).1; omega), cond_false, idx_at pre i b hnd h]
    rfl
  have fN : rnm base δ N = some (base + pre.length) := by
    subst hδ
    unfold rnm
    rw [nblt, decide_eq_false (by omega), cond_false, idx_app hNp, idx_cons, nbeq, decide_eq_true rfl, idxC_t]
    rfl
  have fM : ∀ j, j < M.length → rnm base δ (p + j) = some (base + pre.length + 1 + j) := by
    intro j hj
    subst hδ
    have := idx_rgN (r := []) M.length p j hj
    rw [List.append_nil] at this
    unfold rnm
    rw [nblt, decide_eq_false (by omega), cond_false, idx_app (fun hm => by have := (hpr _ hm).2.2; omega), idx_cons, nbeq, decide_eq_false (by omega), idxC_f, this]
    simp only [Option.map_some]; congr 1; omega
  have hb : optAll (pickR base δ H) δ = some (PB ++ lsB (base + pre.length + 1) M :: M.map nB) := by
    have e2 : pickR base δ H N = some (lsB (base + pre.length + 1) M) := by
      unfold pickR
      rw [hN]
      simp only [renB_non]
      rw [slS_ren M p (base + pre.length + 1) fM]
      rfl
    have e3 := pick_rg (base := base) (δ := δ) M p hM
    have e4 : optAll (pickR base δ H) (N :: rgN p M.length) = some (lsB (base + pre.length + 1) M :: M.map nB) := by simp only [optAll, e2, e3]
    rw [show optAll (pickR base δ H) δ = optAll (pickR base δ H) (pre ++ N :: rgN p M.length) by rw [hδ]]
    exact optAll_app e4 (pick_pre pre PB hPB hfl)
  exact sweep_to hr (hσ _ fP fN fM) hb
end Go.Proofs.Ytfccmddkblbeoaa.rk
namespace Go.Proofs.Ytfccmddkblbeoaa.rk
open Go.GE
set_option linter.unusedVariables false
set_option linter.unusedSimpArgs false
set_option linter.unusedSectionVars false
set_option maxRecDepth 100000
set_option maxHeartbeats 4000000
theorem cS_one {f : Nat → Nat} {k i : Nat} : cS f (k + 1) i 0 = f i + cS f k (i + 1) 0 := by
  simp only [cS]
  rw [cS_add k (i + 1) (0 + f i)]
  omega
/-- the number of days of a set -/
def chkN : Bool := allN (fun n => allN (fun s => decide (2 ^ n ≤ s) || decide (sizeN s + cntU n s = n)) 32) 6
theorem chkN_ok : chkN = true := by kernel_rfl
theorem size_cnt {n s : Nat} (hn : n ≤ 5) (hs : s < 2 ^ n) : sizeN s + cntU n s = n := by
  have h1 := allN_spec 6 chkN_ok n (by omega)
  have h32 : 2 ^ n ≤ 2 ^ 5 := Nat.pow_le_pow_right (by decide) hn
  have h2 := allN_spec 32 h1 s (by omega)
  simp only [Bool.or_eq_true, decide_eq_true_eq] at h2
  omega
end Go.Proofs.Ytfccmddkblbeoaa.rk
namespace Go.Proofs.Ytfccmddkblbeoaa.rk
open Go.GE
set_option linter.unusedVariables false
set_option linter.unusedSimpArgs false
set_option linter.unusedSectionVars false
set_option maxRecDepth 100000
set_option maxHeartbeats 4000000
theorem cS_pos {f : Nat → Nat} : ∀ k i, 0 < cS f k i 0 → ∃ j, i ≤ j ∧ j < i + k ∧ 0 < f j := by
  intro k
  induction k with
  | zero => intro i h; simp [cS] at h
  | succ k ih =>
    intro i h
    rw [cS_one] at h
    by_cases h0 : 0 < f i
    · exact ⟨i, by omega, by omega, h0⟩
    · obtain ⟨j, a, b, c⟩ := ih (i + 1) (by omega)
      exact ⟨j, by omega, by omega, c⟩
theorem cS_ge {f : Nat → Nat} {d : Nat} : ∀ k i, i ≤ d → d < i + k → f d ≤ cS f k i 0 := by
  intro k
  induction k with
  | zero => intro i _ _; omega
  | succ k ih =>
    intro i h1 h2
    rw [cS_one]
    by_cases e : i = d
    · subst e; omega
    · have := ih (i + 1) (by omega) (by omega); omega
theorem adn_same {s d : Nat} (hd : d < 32) (hs : s ||| 2 ^ d < 2 ^ 32) (h : s.testBit d = false) : adn (s ||| 2 ^ d) d = s := by
  refine Nat.eq_of_testBit_eq fun i => ?_
  rw [adn_bit hd hs, bit_or]
  by_cases e : d = i
  · subst e; simp [h]
  · simp [e]
end Go.Proofs.Ytfccmddkblbeoaa.rk
namespace Go.Proofs.Ytfccmddkblbeoaa.rk
open Go.GE
set_option linter.unusedVariables false
set_option linter.unusedSimpArgs false
set_option linter.unusedSectionVars false
set_option maxRecDepth 100000
set_option maxHeartbeats 4000000
theorem sw_none {K0 : Blk} {R : List Blk} : sweep 1 ⟨[(4, .bool true)], K0 :: R, []⟩ = some ⟨[(4, .bool true)], [K0], []⟩ := sweep_to (δ := []) reach_nil rfl rfl
end Go.Proofs.Ytfccmddkblbeoaa.rk
