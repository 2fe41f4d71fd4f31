/-
  Contracts of functions of the program at the limit evaluator, continued. No condition.
-/
import Derived.Test.YtfccmddkblbeoaaRG1
import Derived.Test.YtfccmddkblbeoaaE40
namespace Go.Proofs.Ytfccmddkblbeoaa.rk
open Go.GE
set_option linter.unusedVariables false
set_option linter.unusedSimpArgs false
set_option linter.unusedSectionVars false
set_option maxRecDepth 100000
set_option maxHeartbeats 4000000
attribute [local simp] runOps_nil runOps_cons runOpsF_nil runOpsF_cons fstS_some fstF_some opStep_eq want_none oStep_true oStep_false fin_pure fin_read fin_alloc fin_write storeB wrN cellV addWr o_move o_assign o_pick o_alloc o_box o_load o_store o_nilCheck o_bin o_un o_extract o_callV o_callB o_callI callV_f callV_y callV_fc o_makeFunc partsA Instr.fill builtin_len builtin_max2 bin_add bin_sub bin_mul bin_quo bin_rem bin_lss bin_leq bin_gtr bin_geq bin_eql bin_neq un_neg un_not bin_shr bin_shl wrap_u64_id opd opds optAll putO nbeq nblt constOk isC ops sub cl cr co bodyOf thenS_normal thenS_ret thenS_exit thenS_goto afterN_normal afterN_ret afterN_exit afterN_goto condS_true condS_false blockS_normal blockS_ret blockS_exit blockS_goto headS normS normK_eq fixS_nil fixS_cons fix1 fixV emptyB keepO_nil keepO_cons roundC_normal roundC_exit roundC_ret roundC_goto sweep_eq sweepD rnm pickR pickW rootsB ptrT renT ptrFn renFn ptrB_flat ptrB_non renB_flat renB_non plainS_some drawS_some fpsOk disj unord range' dropTo enumT undef wrap_i64_id Value.cells mkCells ptrTo scal cellsAt rdN endS_ret resultsA Option.bind_some tupV finish reachN dep ptrL_eq ptrL renL_eq renL ptrV_bool ptrV_int ptrV_string ptrV_nilFunc ptrV_nilIface ptrV_nilPtr ptrV_ptr ptrV_nilSl ptrV_sl ptrV_iface ptrV_agg ptrV_tuple ptrV_func renV_bool renV_int renV_string renV_nilFunc renV_nilIface renV_nilPtr renV_ptr renV_nilSl renV_sl renV_iface renV_agg renV_tuple renV_func gotoS_goto gotoS_normal gotoS_exit gotoS_ret skip_seq sliceE bnd bndHi intOf optOpd keepT_nil keepT_cons keepC_t keepC_f lk_nil lk_cons lkC_t lkC_f has_nil has_cons hasC_t hasC_f rep_nil rep_cons repC_t repC_f put_eq putC_t putC_f mem_nil mem_cons memC_t memC_f idx_nil idx_cons idxC_t idxC_f reach_nil reachP_cons reachQ_t reachQ_f ptrB_dead renB_dead ins_eq
attribute [local simp] n36_1s n36_4s n36_8s n36_11s n36_12s n36_10s n36_13s n36_9s n36_7s n36_15s n36_16s n36_14s n36_6s n36_17s n36_5s n36_3s n36_19s n36_22s n36_26s n36_29s n36_30s n36_28s n36_34s n36_36s n36_39s n36_43s n36_46s n36_47s n36_45s n36_51s n36_52s n36_50s n36_49s n36_53s n36_48s n36_44s n36_42s n36_41s n36_41g n36_40s n36_38s n36_55s n36_57s n36_58s n36_56s n36_54s n36_37s n36_35s n36_33s n36_32s n36_59s n36_31s n36_27s n36_25s n36_24s n36_24g n36_23s n36_21s n36_61s n36_62s n36_60s n36_20s n36_18s n36_2s n36_0s Try.f36
abbrev lsB (p : Nat) (L : List (List Nat)) : Blk := .cells (slS p L) 1 false true
/-- a day is among those from some place on -/
def ucL (B : List Nat) (i : Nat) : Nat → Nat → Bool → Bool
  | 0, _, u => u
  | k + 1, j, u => ucL B i k (j + 1) (u || decide (B.getD j 0 = i))
theorem map_at {L : List (List Nat)} {j : Nat} {O : List Nat} (h : L[j]? = some O) : (L.map nB)[j]? = some (nB O) := by simp [h]
theorem sw36 {A : List Value} {N : List Value} {L : List (List Nat)} (hL : L.length ≤ 50000) (σ : Tm) (hp : ptrT σ = [0, 1, 2] ∨ ptrT σ = [2] ∨ ptrT σ = [1, 0, 1, 2]) (hσ : ∀ f : Nat → Option Nat, f 0 = some 0 → f 1 = some 1 → f 2 = some 2 → renT f σ = some σ) :
    sweep 2 ⟨σ, .cells A 2 true true :: .cells N 1 true true :: lsB 3 L :: L.map nB, []⟩ = some ⟨σ, .cells A 2 true true :: .cells N 1 true true :: lsB 3 L :: L.map nB, []⟩ := by
  have sw := sweep_join (K0 := .cells A 2 true true) (K1 := .cells N 1 true true) (R := lsB 3 L :: L.map nB) (σ := σ) (σ' := σ) (L := L) (M := []) (N := 2) (p := 3) (p' := 3 + L.length)
      (by simp [lsB, slS]) (fun j O h => by rw [show 3 + j = j + 3 by omega]; exact map_at h) (fun j O h => by simp at h) (by omega) (by omega) (by omega) (.inr ⟨by omega, rfl⟩) (by simpa using hL) hp hσ
  rw [List.append_nil] at sw
  exact sw
section
variable (n b i : Nat) (A : List Value) {B : List Nat} {L : List (List Nat)} (hB : B.length = b) (hb : b ≤ 60) (hL : L.length ≤ 50000)
include hB hb hL
theorem l36b : ∀ (k j : Nat) (u : Bool), j + k = b →
    lpB Try.prog LL ⟨36, 52, 2, none⟩ n36_41 n36_42 ⟨[(6, iv i), (7, .bool u), (25, sl 1 0 b b), (26, iv b), (27, iv j), (0, sl 0 0 n n), (1, sl 1 0 b b), (5, sl 2 0 L.length L.length), (21, iv n), (22, iv i)], .cells A 2 true true :: nB B :: lsB 3 L :: L.map nB, []⟩ =
      some (.exit 2, ⟨[(6, iv i), (7, .bool (ucL B i k j u)), (0, sl 0 0 n n), (1, sl 1 0 b b), (5, sl 2 0 L.length L.length), (21, iv n), (22, iv i)], .cells A 2 true true :: nB B :: lsB 3 L :: L.map nB, []⟩) := by
  have sw := sw36 (A := A) (N := nm B) hL
  have s1 : ∀ (u : Bool) (j : Int), sweep 2 ⟨[(6, iv i), (7, .bool u), (25, sl 1 0 b b), (26, iv b), (27, iv j), (0, sl 0 0 n n), (1, sl 1 0 b b), (5, sl 2 0 L.length L.length), (21, iv n), (22, iv i)], .cells A 2 true true :: nB B :: lsB 3 L :: L.map nB, []⟩ = _ :=
    fun u j => sw _ (.inr (.inr rfl)) (fun f h0 h1 h2 => by simp [renT, renV_sl, renV_int, renV_bool, dep, h0, h1, h2])
  have s2 : ∀ (u : Bool), sweep 2 ⟨[(6, iv i), (7, .bool u), (0, sl 0 0 n n), (1, sl 1 0 b b), (5, sl 2 0 L.length L.length), (21, iv n), (22, iv i)], .cells A 2 true true :: nB B :: lsB 3 L :: L.map nB, []⟩ = _ :=
    fun u => sw _ (.inl rfl) (fun f h0 h1 h2 => by simp [renT, renV_sl, renV_int, renV_bool, dep, h0, h1, h2])
  clear sw
  simp only [lsB, nB] at s1 s2 ⊢
  have hN : ∀ j, j < b → (nm B)[j]? = some (iv (B.getD j 0)) := fun j hj => nm_get (by omega)
  generalize L.map (fun L => Blk.cells (nm L) 1 true true) = Q at *
  generalize slS 3 L = X at *
  generalize nm B = N at *
  intro k
  induction k with
  | zero =>
    intro j u hj
    obtain rfl : j = b := by omega
    rw [lpB_eq]
    simp (maxSteps := 1000000) (disch := first | omega | decide | assumption | simp [scal]) [lenA_sl lk_24, lenA_sl lk_22, o_indexAddrS es_49, ze_49, o_buildSlice es_49 ze_49 (by decide) ba_49_1, o_indexAddrS es_24, loadA_eq ia_3, ze_24, o_buildSlice es_24 ze_24 (by decide) ba_24_0, ap_24, builtin_append ni_24, o_buildSlice es_24 ze_24 (by decide) ba_24_1, ap_49, builtin_append ni_49, want_some q36_52g1, -sweep_eq, ucL, s1, s2]
  | succ k ih =>
    intro j u hj
    have e1 : j < b := by omega
    have e1' : (j : Int) < b := by omega
    have e3 := hN j e1
    have this := ih (j + 1) (u || decide (B.getD j 0 = i)) (by omega)
    simp only [cast1] at this
    unfold ucL
    rw [lpB_eq]
    generalize B.getD j 0 = x at *
    cases u
    · by_cases h : x = i
      · subst h
        simp only [decide_true, Bool.or_true] at this ⊢
        simp (maxSteps := 1000000) (disch := first | omega | decide | assumption | simp [scal]) [lenA_sl lk_24, lenA_sl lk_22, o_indexAddrS es_49, ze_49, o_buildSlice es_49 ze_49 (by decide) ba_49_1, o_indexAddrS es_24, loadA_eq ia_3, ze_24, o_buildSlice es_24 ze_24 (by decide) ba_24_0, ap_24, builtin_append ni_24, o_buildSlice es_24 ze_24 (by decide) ba_24_1, ap_49, builtin_append ni_49, want_some q36_52g1, -sweep_eq, e1, e1', e3, s1, s2, this]
      · have h' : ¬ (x : Int) = i := by omega
        simp only [h, decide_false, Bool.or_false] at this ⊢
        simp (maxSteps := 1000000) (disch := first | omega | decide | assumption | simp [scal]) [lenA_sl lk_24, lenA_sl lk_22, o_indexAddrS es_49, ze_49, o_buildSlice es_49 ze_49 (by decide) ba_49_1, o_indexAddrS es_24, loadA_eq ia_3, ze_24, o_buildSlice es_24 ze_24 (by decide) ba_24_0, ap_24, builtin_append ni_24, o_buildSlice es_24 ze_24 (by decide) ba_24_1, ap_49, builtin_append ni_49, want_some q36_52g1, -sweep_eq, e1, e1', e3, s1, s2, h, h', this]
    · simp only [Bool.true_or] at this ⊢
      simp (maxSteps := 1000000) (disch := first | omega | decide | assumption | simp [scal]) [lenA_sl lk_24, lenA_sl lk_22, o_indexAddrS es_49, ze_49, o_buildSlice es_49 ze_49 (by decide) ba_49_1, o_indexAddrS es_24, loadA_eq ia_3, ze_24, o_buildSlice es_24 ze_24 (by decide) ba_24_0, ap_24, builtin_append ni_24, o_buildSlice es_24 ze_24 (by decide) ba_24_1, ap_49, builtin_append ni_49, want_some q36_52g1, -sweep_eq, e1, e1', e3, s1, s2, this]
end
end Go.Proofs.Ytfccmddkblbeoaa.rk
namespace Go.Proofs.Ytfccmddkblbeoaa.rk
open Go.GE
set_option linter.unusedVariables false
set_option linter.unusedSimpArgs false
set_option linter.unusedSectionVars false
set_option maxRecDepth 100000
set_option maxHeartbeats 4000000
attribute [local simp] runOps_nil runOps_cons runOpsF_nil runOpsF_cons fstS_some fstF_some opStep_eq want_none oStep_true oStep_false fin_pure fin_read fin_alloc fin_write storeB wrN cellV addWr o_move o_assign o_pick o_alloc o_box o_load o_store o_nilCheck o_bin o_un o_extract o_callV o_callB o_callI callV_f callV_y callV_fc o_makeFunc partsA Instr.fill builtin_len builtin_max2 bin_add bin_sub bin_mul bin_quo bin_rem bin_lss bin_leq bin_gtr bin_geq bin_eql bin_neq un_neg un_not bin_shr bin_shl wrap_u64_id opd opds optAll putO nbeq nblt constOk isC ops sub cl cr co bodyOf thenS_normal thenS_ret thenS_exit thenS_goto afterN_normal afterN_ret afterN_exit afterN_goto condS_true condS_false blockS_normal blockS_ret blockS_exit blockS_goto headS normS normK_eq fixS_nil fixS_cons fix1 fixV emptyB keepO_nil keepO_cons roundC_normal roundC_exit roundC_ret roundC_goto sweep_eq sweepD rnm pickR pickW rootsB ptrT renT ptrFn renFn ptrB_flat ptrB_non renB_flat renB_non plainS_some drawS_some fpsOk disj unord range' dropTo enumT undef wrap_i64_id Value.cells mkCells ptrTo scal cellsAt rdN endS_ret resultsA Option.bind_some tupV finish reachN dep ptrL_eq ptrL renL_eq renL ptrV_bool ptrV_int ptrV_string ptrV_nilFunc ptrV_nilIface ptrV_nilPtr ptrV_ptr ptrV_nilSl ptrV_sl ptrV_iface ptrV_agg ptrV_tuple ptrV_func renV_bool renV_int renV_string renV_nilFunc renV_nilIface renV_nilPtr renV_ptr renV_nilSl renV_sl renV_iface renV_agg renV_tuple renV_func gotoS_goto gotoS_normal gotoS_exit gotoS_ret skip_seq sliceE bnd bndHi intOf optOpd keepT_nil keepT_cons keepC_t keepC_f lk_nil lk_cons lkC_t lkC_f has_nil has_cons hasC_t hasC_f rep_nil rep_cons repC_t repC_f put_eq putC_t putC_f mem_nil mem_cons memC_t memC_f idx_nil idx_cons idxC_t idxC_f reach_nil reachP_cons reachQ_t reachQ_f ptrB_dead renB_dead ins_eq
attribute [local simp] n36_1s n36_4s n36_8s n36_11s n36_12s n36_10s n36_13s n36_9s n36_7s n36_15s n36_16s n36_14s n36_6s n36_17s n36_5s n36_3s n36_19s n36_22s n36_26s n36_29s n36_30s n36_28s n36_34s n36_36s n36_39s n36_43s n36_46s n36_47s n36_45s n36_51s n36_52s n36_50s n36_49s n36_53s n36_48s n36_44s n36_42s n36_41s n36_41g n36_40s n36_38s n36_55s n36_57s n36_58s n36_56s n36_54s n36_37s n36_35s n36_33s n36_32s n36_59s n36_31s n36_27s n36_25s n36_24s n36_24g n36_23s n36_21s n36_61s n36_62s n36_60s n36_20s n36_18s n36_2s n36_0s Try.f36
theorem src_all {h : List Blk} {b n c : Nat} {cs : List Value} {flat own : Bool} (hb : h[b]? = some (.cells cs 1 flat own)) (hn : cs.length = n) (h1 : 1 ≤ n) : srcCells h 1 (sl b 0 n c) = some (n, cs, flat || cs.all scal, [b]) := by
  obtain ⟨m, rfl⟩ : ∃ m, n = m + 1 := ⟨n - 1, by omega⟩
  have hr := rdN_all cs ((m + 1) * 1) 0 (by omega)
  simp only [srcCells, hb, hr, List.drop_zero, Option.map_some]
theorem app_many {h : List Blk} {b c by' l n : Nat} {cs new : List Value} {rd : List Nat} {flat fl : Bool} (hlen : cs.length = l) (h1 : 1 ≤ n) (hb : (l + n) * by' ≤ 2 ^ 46) (hb2 : l + n ≤ 2 ^ 46) (hn : new.all cellV = true) :
    appS h 1 by' b 0 l c (some (.cells cs 1 flat true)) (some (n, new, fl, rd)) = some ⟨.slice (some ⟨h.length, 0, none⟩) (l + n) (l + n), h.set b .dead ++ [.cells (cs ++ new) 1 (flat && fl) true], b :: rd, [b]⟩ := by
  obtain ⟨m, rfl⟩ : ∃ m, n = m + 1 := ⟨n - 1, by omega⟩
  have hr := rdN_all cs (l * 1) 0 (by omega)
  simp only [appS, hr, List.drop_zero]
  rw [if_pos (by refine ⟨by omega, by omega, ?_, hn⟩; first | trivial | rfl)]
theorem app_zero {h : List Blk} {b c by' l : Nat} {blk : Option Blk} {new : List Value} {rd : List Nat} {fl : Bool} : appS h 1 by' b 0 l c blk (some (0, new, fl, rd)) = some ⟨sl b 0 l c, h, [], []⟩ := rfl
theorem src_zero {h : List Blk} {b c : Nat} : srcCells h 1 (sl b 0 0 c) = some (0, [], true, []) := rfl
theorem slS_scal : ∀ (L : List (List Nat)) (p : Nat), 1 ≤ L.length → (slS p L).all scal = false := by
  intro L p h
  cases L with
  | nil => simp at h
  | cons O L => rfl
theorem map_left {L : List (List Nat)} {R : List Blk} {j : Nat} {O : List Nat} (h : L[j]? = some O) : (L.map nB ++ R)[j]? = some (nB O) := by
  have hj : j < L.length := (List.getElem?_eq_some_iff.1 h).1
  rw [List.getElem?_append_left (by simpa using hj)]
  exact map_at h
/-- the heap when the lists of a call have been added to the list of lists -/
theorem sw_m {A N : List Value} {L M : List (List Nat)} {J : List Blk} {σ σ' : Tm} {p p' : Nat} (hp' : p' = L.length + (J.length + 4)) (hN : p = L.length + (M.length + (J.length + 4))) (h5 : L.length + M.length ≤ 50000)
    (hp : ptrT σ = [0, 1, p] ∨ ptrT σ = [p] ∨ ptrT σ = [1, 0, 1, p]) (hσ : ∀ f : Nat → Option Nat, f 0 = some 0 → f 1 = some 1 → f p = some 2 → renT f σ = some σ') :
    sweep 2 ⟨σ, .cells A 2 true true :: .cells N 1 true true :: .dead :: (L.map nB ++ (J ++ (lsB p' M :: (M.map nB ++ [.cells (slS 3 L ++ slS p' M) 1 false true])))), []⟩ =
      some ⟨σ', .cells A 2 true true :: .cells N 1 true true :: lsB 3 (L ++ M) :: (L ++ M).map nB, []⟩ := by
  have hm : (M.map nB).length = M.length := by simp
  have hl : (L.map nB).length = L.length := by simp
  refine sweep_join (p := 3) (p' := p') ?_ ?_ ?_ (by omega) (by omega) (by omega) (.inl (by omega)) h5 hp hσ
  · rw [hN, show L.length + (M.length + (J.length + 4)) = L.length + (M.length + (J.length + 1)) + 1 + 1 + 1 by omega]
    simp only [List.getElem?_cons_succ]
    rw [List.getElem?_append_right (by omega), List.getElem?_append_right (by omega), show L.length + (M.length + (J.length + 1)) - (L.map nB).length - J.length = M.length + 1 by omega, List.getElem?_cons_succ, List.getElem?_append_right (by omega), hm, Nat.sub_self]
    rfl
  · intro j O h
    rw [show 3 + j = j + 1 + 1 + 1 by omega]
    simp only [List.getElem?_cons_succ]
    exact map_left h
  · intro j O h
    rw [hp', show L.length + (J.length + 4) + j = L.length + (J.length + (j + 1)) + 1 + 1 + 1 by omega]
    simp only [List.getElem?_cons_succ]
    rw [List.getElem?_append_right (by omega), List.getElem?_append_right (by omega), show L.length + (J.length + (j + 1)) - (L.map nB).length - J.length = j + 1 by omega, List.getElem?_cons_succ]
    exact map_left h
/-- the heap when a call has answered no list -/
theorem sw_z {A N : List Value} {L : List (List Nat)} {J : List Blk} (h5 : L.length ≤ 50000) (σ : Tm) (hp : ptrT σ = [0, 1, 2] ∨ ptrT σ = [2] ∨ ptrT σ = [1, 0, 1, 2]) (hσ : ∀ f : Nat → Option Nat, f 0 = some 0 → f 1 = some 1 → f 2 = some 2 → renT f σ = some σ) :
    sweep 2 ⟨σ, .cells A 2 true true :: .cells N 1 true true :: lsB 3 L :: (L.map nB ++ J), []⟩ = some ⟨σ, .cells A 2 true true :: .cells N 1 true true :: lsB 3 L :: L.map nB, []⟩ := by
  have sw := sweep_join (K0 := .cells A 2 true true) (K1 := .cells N 1 true true) (R := lsB 3 L :: (L.map nB ++ J)) (σ := σ) (σ' := σ) (L := L) (M := []) (N := 2) (p := 3) (p' := 3 + L.length)
      (by simp [lsB, slS]) (fun j O h => by rw [show 3 + j = j + 3 by omega]; exact map_left h) (fun j O h => by simp at h) (by omega) (by omega) (by omega) (.inr ⟨by omega, rfl⟩) (by simpa using h5) hp hσ
  rw [List.append_nil] at sw
  exact sw
/-- the heap when the list that was handed over has been added to the list of lists -/
theorem sw_o {A N : List Value} {L : List (List Nat)} {J : List Blk} {O : List Nat} {y : Blk} {σ σ' : Tm} {p p' : Nat} (hp' : p' = L.length + (J.length + 3)) (hN : p = L.length + (J.length + 5)) (h5 : L.length + 1 ≤ 50000)
    (hp : ptrT σ = [0, 1, p] ∨ ptrT σ = [p] ∨ ptrT σ = [1, 0, 1, p]) (hσ : ∀ f : Nat → Option Nat, f 0 = some 0 → f 1 = some 1 → f p = some 2 → renT f σ = some σ') :
    sweep 2 ⟨σ, .cells A 2 true true :: .cells N 1 true true :: .dead :: (L.map nB ++ (J ++ [nB O, y, .cells (slS 3 L ++ [sl p' 0 O.length O.length]) 1 false true])), []⟩ =
      some ⟨σ', .cells A 2 true true :: .cells N 1 true true :: lsB 3 (L ++ [O]) :: (L ++ [O]).map nB, []⟩ := by
  have hl : (L.map nB).length = L.length := by simp
  refine sweep_join (p := 3) (p' := p') (M := [O]) ?_ ?_ ?_ (by omega) (by omega) (by omega) (.inl (by simp only [List.length_cons, List.length_nil]; omega)) (by simpa using h5) hp hσ
  · rw [hN, show L.length + (J.length + 5) = L.length + (J.length + 2) + 1 + 1 + 1 by omega]
    simp only [List.getElem?_cons_succ]
    rw [List.getElem?_append_right (by omega), List.getElem?_append_right (by omega), show L.length + (J.length + 2) - (L.map nB).length - J.length = 2 by omega]
    rfl
  · intro j O h
    rw [show 3 + j = j + 1 + 1 + 1 by omega]
    simp only [List.getElem?_cons_succ]
    exact map_left h
  · intro j O' h
    obtain rfl : j = 0 := by
      have := (List.getElem?_eq_some_iff.1 h).1
      simp at this; exact this
    cases h
    rw [hp', show L.length + (J.length + 3) + 0 = L.length + J.length + 1 + 1 + 1 by omega]
    simp only [List.getElem?_cons_succ]
    rw [List.getElem?_append_right (by omega), List.getElem?_append_right (by omega), show L.length + J.length - (L.map nB).length - J.length = 0 by omega]
    rfl
/-- what a call of orders answers -/
def O36 (n : Nat) (A : List Value) (B : List Nat) (M : List (List Nat)) : Prop := ∀ (h : List Blk) (b1 b2 : Nat), h[b1]? = some (.cells A 2 true true) → h[b2]? = some (nB B) → b1 ≠ b2 →
  callH LL 36 [sl b1 0 n n, sl b2 0 B.length B.length] h = some ⟨sl h.length 0 M.length M.length, h ++ lsB (h.length + 1) M :: M.map nB, [b1, b2], []⟩
/-- what a call of orders answers when all days are told -/
def Z36 (n : Nat) (A : List Value) (B : List Nat) : Prop := ∀ (h : List Blk) (b1 b2 : Nat), h[b1]? = some (.cells A 2 true true) → h[b2]? = some (nB B) → b1 ≠ b2 →
  callH LL 36 [sl b1 0 n n, sl b2 0 B.length B.length] h = some ⟨sl h.length 0 1 1, h ++ [.cells [sl b2 0 B.length B.length] 1 false true], [b1, b2], []⟩
/-- orders that go on from some days -/
def gF (B : List Nat) (G : Nat → List (List Nat)) (i : Nat) : List (List Nat) := cond (ucL B i B.length 0 false) [] (G i)
section
variable (n b : Nat) (A : List Value) {B : List Nat} (hB : B.length = b) (hb : b + 1 ≤ n) (hn5 : n ≤ 5) (G : Nat → List (List Nat)) (hG : ∀ i, i < n → (G i).length ≤ 1000) (hO : ∀ i, i < n → ucL B i b 0 false = false → O36 n A (B ++ [i]) (G i) ∨ Z36 n A (B ++ [i]) ∧ G i = [B ++ [i]])
include hB hb hn5 hG hO
theorem l36 : ∀ (q i : Nat) (L : List (List Nat)), i + q = n → L.length ≤ i * 1000 →
    lpB Try.prog LL ⟨36, 52, 2, none⟩ n36_24 n36_25 ⟨[(0, sl 0 0 n n), (1, sl 1 0 b b), (5, sl 2 0 L.length L.length), (21, iv n), (22, iv i)], .cells A 2 true true :: nB B :: lsB 3 L :: L.map nB, []⟩ =
      some (.exit 0, ⟨[(5, sl 2 0 (L ++ apS (gF B G) q i).length (L ++ apS (gF B G) q i).length)], .cells A 2 true true :: nB B :: lsB 3 (L ++ apS (gF B G) q i) :: (L ++ apS (gF B G) q i).map nB, []⟩) := by
  intro q
  induction q with
  | zero =>
    intro i L hi hL
    obtain rfl : i = n := by omega
    simp only [apS, List.append_nil]
    have s1 := sw36 (A := A) (N := nm B) (L := L) (by omega) [(5, sl 2 0 L.length L.length)] (.inr (.inl rfl)) (fun f h0 h1 h2 => by simp [renT, renV_sl, dep, h2])
    simp only [lsB, nB] at s1 ⊢
    generalize L.map (fun L => Blk.cells (nm L) 1 true true) = Q at *
    generalize slS 3 L = X at *
    generalize nm B = N at *
    rw [lpB_eq]
    simp (maxSteps := 1000000) (disch := first | omega | decide | assumption | simp [scal]) [lenA_sl lk_24, lenA_sl lk_22, o_indexAddrS es_49, ze_49, o_buildSlice es_49 ze_49 (by decide) ba_49_1, o_indexAddrS es_24, loadA_eq ia_3, ze_24, o_buildSlice es_24 ze_24 (by decide) ba_24_0, ap_24, builtin_append ni_24, o_buildSlice es_24 ze_24 (by decide) ba_24_1, ap_49, builtin_append ni_49, want_some q36_52g1, -sweep_eq, s1]
  | succ q ih =>
    intro i L hi hL
    have e0 : i < n := by omega
    have e1 : (i : Int) < n := by omega
    have hGi := hG i e0
    have lb := l36b n b i A hB (by omega) (L := L) (by omega) b 0 false (by omega)
    have this := ih (i + 1) (L ++ gF B G i) (by omega) (by
      have : (gF B G i).length ≤ 1000 := by unfold gF; cases ucL B i B.length 0 false <;> simp; exact hGi
      simp; omega)
    simp only [apS, ← List.append_assoc]
    generalize (L ++ gF B G i) ++ apS (gF B G) q (i + 1) = Z at *
    unfold gF at this
    rw [hB] at this
    simp only [cast1] at this
    clear ih
    have s1 := sw36 (A := A) (N := nm B) (L := L) (by omega) [(0, sl 0 0 n n), (1, sl 1 0 b b), (5, sl 2 0 L.length L.length), (21, iv n), (22, iv ((i : Int) + 1))] (.inl rfl) (fun f h0 h1 h2 => by simp [renT, renV_sl, renV_int, dep, h0, h1, h2])
    have s2 := sw36 (A := A) (N := nm B) (L := L) (by omega) [(6, iv i), (7, .bool false), (25, sl 1 0 b b), (26, iv b), (27, iv 0), (0, sl 0 0 n n), (1, sl 1 0 b b), (5, sl 2 0 L.length L.length), (21, iv n), (22, iv i)] (.inr (.inr rfl)) (fun f h0 h1 h2 => by simp [renT, renV_sl, renV_int, renV_bool, dep, h0, h1, h2])
    cases hu : ucL B i b 0 false
    · rw [hu] at lb this
      have ho := hO i e0 hu
      rw [cond_false] at this
      generalize hM : G i = M at *
      simp only [lsB, nB, Int.natCast_zero] at s1 s2 lb this ⊢
      generalize hq : L.length = q' at *
      generalize hQ : L.map (fun L => Blk.cells (nm L) 1 true true) = Q at *
      generalize Z.map (fun L => Blk.cells (nm L) 1 true true) = QZ at *
      generalize slS 3 Z = XZ at *
      generalize hX : slS 3 L = X at *
      have hl : Q.length = q' := by rw [← hQ, List.length_map, hq]
      have g0 : ∀ R : List Blk, (Q ++ R)[q']? = R[0]? := by intro R; rw [List.getElem?_append_right (by omega), show q' - Q.length = 0 by omega]
      have g1 : ∀ (R : List Blk) (k : Nat), (Q ++ R)[q' + k]? = R[k]? := by intro R k; rw [List.getElem?_append_right (by omega), show q' + k - Q.length = k by omega]
      have t0 : ∀ (R : List Blk) v, (Q ++ R).set q' v = Q ++ R.set 0 v := by intro R v; rw [List.set_append_right _ _ (by omega), show q' - Q.length = 0 by omega]
      have t1 : ∀ (R : List Blk) (k : Nat) v, (Q ++ R).set (q' + k) v = Q ++ R.set k v := by intro R k v; rw [List.set_append_right _ _ (by omega), show q' + k - Q.length = k by omega]
      have nn : ∀ a b : Nat, q' + a + b = q' + (a + b) := fun a b => Nat.add_assoc q' a b
      have dl : ∀ k : Nat, (q' + (k + 2) < 2) = False := fun k => by simp; omega
      rw [lpB_eq]
      by_cases hb0 : 1 ≤ b
      · have c1 := fun R => src_all (h := .cells A 2 true true :: .cells (nm B) 1 true true :: R) (b := 1) (n := b) (c := b) (cs := nm B) (flat := true) (own := true) rfl (by rw [nm_len, hB]) hb0
        have c2 := fun hp P rd fl => app_many (h := hp) (b := P) (c := 0) (by' := 8) (l := 0) (n := b) (cs := []) (new := nm B) (rd := rd) (flat := true) (fl := fl) rfl hb0 (by omega) (by omega) nm_all
        have c3 := fun hp P c rd => app_list (h := hp) (b := P) (c := c) (k := 1) (by' := 8) (l := b) (cs := nm B) (new := [iv i]) (rd := rd) (by rw [nm_len, hB]; omega) (by omega) (by omega) rfl
        simp only [List.nil_append, Nat.zero_add] at c2
        have c4 := fun K0 K1 K2 x y => src_all (h := K0 :: K1 :: K2 :: (Q ++ [x, y, .cells [iv i] 1 true true])) (b := q' + 5) (n := 1) (c := 1) (cs := [iv i]) (flat := true) (own := true) (by simp [g1]) rfl (by omega)
        rcases ho with ho | ⟨ho, hZ⟩
        · have cG := ho (.cells A 2 true true :: .cells (nm B) 1 true true :: .cells X 1 false true :: (Q ++ [.dead, .dead, .cells [iv i] 1 true true, .cells (nm B ++ [iv i]) 1 true true])) 0 (q' + 6) rfl (by simp [g1, nB, nm_app, nm_one]) (by omega)
          have hlen : (Blk.cells A 2 true true :: .cells (nm B) 1 true true :: .cells X 1 false true :: (Q ++ [.dead, .dead, .cells [iv i] 1 true true, .cells (nm B ++ [iv i]) 1 true true])).length = q' + 7 := by simp [hl]
          rw [hlen] at cG
          have hBl : (B ++ [i]).length = b + 1 := by simp [hB]
          rw [hBl] at cG
          simp only [lsB, nB, List.cons_append, List.append_assoc, List.nil_append, nn, Nat.reduceAdd] at cG
          by_cases hM0 : M = []
          · subst hM0
            simp only [List.append_nil, List.map_nil, slS, List.length_nil] at this cG
            have s3 := sw_z (A := A) (N := nm B) (L := L) (J := [.dead, .dead, .cells [iv i] 1 true true, .cells (nm B ++ [iv i]) 1 true true, .cells [] 1 false true]) (by omega) [(0, sl 0 0 n n), (1, sl 1 0 b b), (5, sl 2 0 q' q'), (21, iv n), (22, iv ((i : Int) + 1))] (.inl rfl) (fun f h0 h1 h2 => by simp [renT, renV_sl, renV_int, dep, h0, h1, h2])
            rw [hQ] at s3
            simp only [lsB, hX] at s3
            rw [hq, hQ, hX] at this
            simp (maxSteps := 1000000) (disch := first | omega | decide | assumption | simp [scal]) [lenA_sl lk_24, lenA_sl lk_22, o_indexAddrS es_49, ze_49, o_buildSlice es_49 ze_49 (by decide) ba_49_1, o_indexAddrS es_24, loadA_eq ia_3, ze_24, o_buildSlice es_24 ze_24 (by decide) ba_24_0, ap_24, builtin_append ni_24, o_buildSlice es_24 ze_24 (by decide) ba_24_1, ap_49, builtin_append ni_49, want_some q36_52g1, -sweep_eq, e0, e1, lb, s1, s2, s3, append_some ap_24, append_some ap_49, hl, g0, g1, t0, t1, nn, dl, c1, c2, c3, c4, cG, src_zero, app_zero, this]
          · have hm0 : 1 ≤ M.length := by cases M with | nil => exact absurd rfl hM0 | cons _ _ => simp
            have c5 := fun K0 K1 K2 x1 x2 x3 x4 R => src_all (h := K0 :: K1 :: K2 :: (Q ++ (x1 :: x2 :: x3 :: x4 :: .cells (slS (q' + 8) M) 1 false true :: R))) (b := q' + 7) (n := M.length) (c := M.length) (cs := slS (q' + 8) M) (flat := false) (own := true) (by simp [g1]) (slS_len M _) hm0
            have c6 := fun hp rd => app_many (h := hp) (b := 2) (c := q') (by' := 24) (l := q') (n := M.length) (cs := X) (new := slS (q' + 8) M) (rd := rd) (flat := false) (fl := false) (by rw [← hX, slS_len, hq]) hm0 (by omega) (by omega) (slS_all _ _)
            rw [slS_scal _ _ hm0] at c5
            simp only [Bool.or_false, Bool.and_false] at c5 c6
            have s3 := sw_m (A := A) (N := nm B) (L := L) (M := M) (J := [.dead, .dead, .cells [iv i] 1 true true, .cells (nm B ++ [iv i]) 1 true true]) (p := q' + (M.length + 1 + 1 + 1 + 1 + 1 + 1 + 1 + 1)) (p' := q' + 8) (σ := [(0, sl 0 0 n n), (1, sl 1 0 b b), (5, sl (q' + (M.length + 1 + 1 + 1 + 1 + 1 + 1 + 1 + 1)) 0 (q' + M.length) (q' + M.length)), (21, iv n), (22, iv ((i : Int) + 1))]) (σ' := [(0, sl 0 0 n n), (1, sl 1 0 b b), (5, sl 2 0 (q' + M.length) (q' + M.length)), (21, iv n), (22, iv ((i : Int) + 1))])
              (by simp only [List.length_cons, List.length_nil]; omega) (by simp only [List.length_cons, List.length_nil]; omega) (by omega) (.inl rfl) (fun f h0 h1 h2 => by simp [renT, renV_sl, renV_int, dep, h0, h1, h2])
            rw [hQ] at s3
            simp only [lsB, hX, List.cons_append, List.nil_append] at s3
            have hLM : (L ++ M).length = q' + M.length := by simp [hq]
            rw [hLM] at this
            generalize (L ++ M).map nB = Q2 at s3 this
            generalize slS 3 (L ++ M) = X2 at s3 this
            simp (maxSteps := 1000000) (disch := first | omega | decide | assumption | simp [scal]) [lenA_sl lk_24, lenA_sl lk_22, o_indexAddrS es_49, ze_49, o_buildSlice es_49 ze_49 (by decide) ba_49_1, o_indexAddrS es_24, loadA_eq ia_3, ze_24, o_buildSlice es_24 ze_24 (by decide) ba_24_0, ap_24, builtin_append ni_24, o_buildSlice es_24 ze_24 (by decide) ba_24_1, ap_49, builtin_append ni_49, want_some q36_52g1, -sweep_eq, e0, e1, lb, s1, s2, s3, append_some ap_24, append_some ap_49, hl, g0, g1, t0, t1, nn, dl, c1, c2, c3, c4, c5, c6, cG, this]
        · have cG := ho (.cells A 2 true true :: .cells (nm B) 1 true true :: .cells X 1 false true :: (Q ++ [.dead, .dead, .cells [iv i] 1 true true, .cells (nm B ++ [iv i]) 1 true true])) 0 (q' + 6) rfl (by simp [g1, nB, nm_app, nm_one]) (by omega)
          have hlen : (Blk.cells A 2 true true :: .cells (nm B) 1 true true :: .cells X 1 false true :: (Q ++ [.dead, .dead, .cells [iv i] 1 true true, .cells (nm B ++ [iv i]) 1 true true])).length = q' + 7 := by simp [hl]
          rw [hlen] at cG
          have hBl : (B ++ [i]).length = b + 1 := by simp [hB]
          rw [hBl] at cG
          simp only [List.cons_append, List.append_assoc, List.nil_append, nn, Nat.reduceAdd] at cG
          have c5 := fun K0 K1 K2 x1 x2 x3 x4 R => src_all (h := K0 :: K1 :: K2 :: (Q ++ (x1 :: x2 :: x3 :: x4 :: .cells [sl (q' + 6) 0 (b + 1) (b + 1)] 1 false true :: R))) (b := q' + 7) (n := 1) (c := 1) (cs := [sl (q' + 6) 0 (b + 1) (b + 1)]) (flat := false) (own := true) (by simp [g1]) rfl (by omega)
          have c6 := fun hp rd => app_many (h := hp) (b := 2) (c := q') (by' := 24) (l := q') (n := 1) (cs := X) (new := [sl (q' + 6) 0 (b + 1) (b + 1)]) (rd := rd) (flat := false) (fl := false) (by rw [← hX, slS_len, hq]) (by omega) (by omega) (by omega) rfl
          have hs : ([sl (q' + 6) 0 (b + 1) (b + 1)] : List Value).all scal = false := rfl
          rw [hs] at c5
          simp only [Bool.or_false, Bool.and_false] at c5 c6
          have s3 := sw_o (A := A) (N := nm B) (L := L) (O := B ++ [i]) (y := .cells [sl (q' + 6) 0 (b + 1) (b + 1)] 1 false true) (J := [.dead, .dead, .cells [iv i] 1 true true]) (p := q' + 8) (p' := q' + 6) (σ := [(0, sl 0 0 n n), (1, sl 1 0 b b), (5, sl (q' + 8) 0 (q' + 1) (q' + 1)), (21, iv n), (22, iv ((i : Int) + 1))]) (σ' := [(0, sl 0 0 n n), (1, sl 1 0 b b), (5, sl 2 0 (q' + 1) (q' + 1)), (21, iv n), (22, iv ((i : Int) + 1))])
            (by simp only [List.length_cons, List.length_nil]; omega) (by simp only [List.length_cons, List.length_nil]; omega) (by omega) (.inl rfl) (fun f h0 h1 h2 => by simp [renT, renV_sl, renV_int, dep, h0, h1, h2])
          rw [hQ, hBl] at s3
          rw [hZ] at this
          have hLM : (L ++ [B ++ [i]]).length = q' + 1 := by simp [hq]
          rw [hLM] at this
          generalize (L ++ [B ++ [i]]).map nB = Q2 at s3 this
          simp only [lsB, hX] at s3
          generalize slS 3 (L ++ [B ++ [i]]) = X2 at s3 this
          simp only [nB, nm_app, nm_one, List.cons_append, List.nil_append] at s3
          simp (maxSteps := 1000000) (disch := first | omega | decide | assumption | simp [scal]) [lenA_sl lk_24, lenA_sl lk_22, o_indexAddrS es_49, ze_49, o_buildSlice es_49 ze_49 (by decide) ba_49_1, o_indexAddrS es_24, loadA_eq ia_3, ze_24, o_buildSlice es_24 ze_24 (by decide) ba_24_0, ap_24, builtin_append ni_24, o_buildSlice es_24 ze_24 (by decide) ba_24_1, ap_49, builtin_append ni_49, want_some q36_52g1, -sweep_eq, e0, e1, lb, s1, s2, s3, append_some ap_24, append_some ap_49, hl, g0, g1, t0, t1, nn, dl, c1, c2, c3, c4, c5, c6, cG, this]
      · obtain rfl : b = 0 := by omega
        have hB0 : B = [] := List.length_eq_zero_iff.1 hB
        subst hB0
        simp only [Int.natCast_zero, nm_nil] at s1 s2 lb this ⊢
        have c4 := fun K0 K1 K2 x => src_all (h := K0 :: K1 :: K2 :: (Q ++ [x, .cells [iv i] 1 true true])) (b := q' + 4) (n := 1) (c := 1) (cs := [iv i]) (flat := true) (own := true) (by simp [g1]) rfl (by omega)
        have c3 := fun hp P c rd => app_list (h := hp) (b := P) (c := c) (k := 1) (by' := 8) (l := 0) (cs := []) (new := [iv i]) (rd := rd) (by simp) (by omega) (by omega) rfl
        rcases ho with ho | ⟨ho, hZ⟩
        · have cG := ho (.cells A 2 true true :: .cells [] 1 true true :: .cells X 1 false true :: (Q ++ [.dead, .cells [iv i] 1 true true, .cells [iv i] 1 true true])) 0 (q' + 5) rfl (by simp [g1, nB, nm_one]) (by omega)
          have hlen : (Blk.cells A 2 true true :: .cells [] 1 true true :: .cells X 1 false true :: (Q ++ [.dead, .cells [iv i] 1 true true, .cells [iv i] 1 true true])).length = q' + 6 := by simp [hl]
          rw [hlen] at cG
          have hBl : ([] ++ [i]).length = 1 := rfl
          rw [hBl] at cG
          simp only [lsB, nB, List.cons_append, List.append_assoc, List.nil_append, nn, Nat.reduceAdd] at cG
          by_cases hM0 : M = []
          · subst hM0
            simp only [List.append_nil, List.map_nil, slS, List.length_nil] at this cG
            have s3 := sw_z (A := A) (N := []) (L := L) (J := [.dead, .cells [iv i] 1 true true, .cells [iv i] 1 true true, .cells [] 1 false true]) (by omega) [(0, sl 0 0 n n), (1, sl 1 0 0 0), (5, sl 2 0 q' q'), (21, iv n), (22, iv ((i : Int) + 1))] (.inl rfl) (fun f h0 h1 h2 => by simp [renT, renV_sl, renV_int, dep, h0, h1, h2])
            rw [hQ] at s3
            simp only [lsB, hX] at s3
            rw [hq, hQ, hX] at this
            simp (maxSteps := 1000000) (disch := first | omega | decide | assumption | simp [scal]) [lenA_sl lk_24, lenA_sl lk_22, o_indexAddrS es_49, ze_49, o_buildSlice es_49 ze_49 (by decide) ba_49_1, o_indexAddrS es_24, loadA_eq ia_3, ze_24, o_buildSlice es_24 ze_24 (by decide) ba_24_0, ap_24, builtin_append ni_24, o_buildSlice es_24 ze_24 (by decide) ba_24_1, ap_49, builtin_append ni_49, want_some q36_52g1, -sweep_eq, e0, e1, lb, s1, s2, s3, append_some ap_24, append_some ap_49, hl, g0, g1, t0, t1, nn, dl, c3, c4, src_zero, app_zero, cG, this]
          · have hm0 : 1 ≤ M.length := by cases M with | nil => exact absurd rfl hM0 | cons _ _ => simp
            have c5 := fun K0 K1 K2 x1 x2 x3 R => src_all (h := K0 :: K1 :: K2 :: (Q ++ (x1 :: x2 :: x3 :: .cells (slS (q' + 7) M) 1 false true :: R))) (b := q' + 6) (n := M.length) (c := M.length) (cs := slS (q' + 7) M) (flat := false) (own := true) (by simp [g1]) (slS_len M _) hm0
            have c6 := fun hp rd => app_many (h := hp) (b := 2) (c := q') (by' := 24) (l := q') (n := M.length) (cs := X) (new := slS (q' + 7) M) (rd := rd) (flat := false) (fl := false) (by rw [← hX, slS_len, hq]) hm0 (by omega) (by omega) (slS_all _ _)
            rw [slS_scal _ _ hm0] at c5
            simp only [Bool.or_false, Bool.and_false] at c5 c6
            have s3 := sw_m (A := A) (N := []) (L := L) (M := M) (J := [.dead, .cells [iv i] 1 true true, .cells [iv i] 1 true true]) (p := q' + (M.length + 1 + 1 + 1 + 1 + 1 + 1 + 1)) (p' := q' + 7) (σ := [(0, sl 0 0 n n), (1, sl 1 0 0 0), (5, sl (q' + (M.length + 1 + 1 + 1 + 1 + 1 + 1 + 1)) 0 (q' + M.length) (q' + M.length)), (21, iv n), (22, iv ((i : Int) + 1))]) (σ' := [(0, sl 0 0 n n), (1, sl 1 0 0 0), (5, sl 2 0 (q' + M.length) (q' + M.length)), (21, iv n), (22, iv ((i : Int) + 1))])
              (by simp only [List.length_cons, List.length_nil]; omega) (by simp only [List.length_cons, List.length_nil]; omega) (by omega) (.inl rfl) (fun f h0 h1 h2 => by simp [renT, renV_sl, renV_int, dep, h0, h1, h2])
            rw [hQ] at s3
            simp only [lsB, hX, List.cons_append, List.nil_append] at s3
            have hLM : (L ++ M).length = q' + M.length := by simp [hq]
            rw [hLM] at this
            generalize (L ++ M).map nB = Q2 at s3 this
            generalize slS 3 (L ++ M) = X2 at s3 this
            simp (maxSteps := 1000000) (disch := first | omega | decide | assumption | simp [scal]) [lenA_sl lk_24, lenA_sl lk_22, o_indexAddrS es_49, ze_49, o_buildSlice es_49 ze_49 (by decide) ba_49_1, o_indexAddrS es_24, loadA_eq ia_3, ze_24, o_buildSlice es_24 ze_24 (by decide) ba_24_0, ap_24, builtin_append ni_24, o_buildSlice es_24 ze_24 (by decide) ba_24_1, ap_49, builtin_append ni_49, want_some q36_52g1, -sweep_eq, e0, e1, lb, s1, s2, s3, append_some ap_24, append_some ap_49, hl, g0, g1, t0, t1, nn, dl, c3, c4, src_zero, app_zero, c5, c6, cG, this]
        · have cG := ho (.cells A 2 true true :: .cells [] 1 true true :: .cells X 1 false true :: (Q ++ [.dead, .cells [iv i] 1 true true, .cells [iv i] 1 true true])) 0 (q' + 5) rfl (by simp [g1, nB, nm_one]) (by omega)
          have hlen : (Blk.cells A 2 true true :: .cells [] 1 true true :: .cells X 1 false true :: (Q ++ [.dead, .cells [iv i] 1 true true, .cells [iv i] 1 true true])).length = q' + 6 := by simp [hl]
          rw [hlen] at cG
          have hBl : ([] ++ [i]).length = 1 := rfl
          rw [hBl] at cG
          simp only [List.cons_append, List.append_assoc, List.nil_append, nn, Nat.reduceAdd] at cG
          have c5 := fun K0 K1 K2 x1 x2 x3 R => src_all (h := K0 :: K1 :: K2 :: (Q ++ (x1 :: x2 :: x3 :: .cells [sl (q' + 5) 0 1 1] 1 false true :: R))) (b := q' + 6) (n := 1) (c := 1) (cs := [sl (q' + 5) 0 1 1]) (flat := false) (own := true) (by simp [g1]) rfl (by omega)
          have c6 := fun hp rd => app_many (h := hp) (b := 2) (c := q') (by' := 24) (l := q') (n := 1) (cs := X) (new := [sl (q' + 5) 0 1 1]) (rd := rd) (flat := false) (fl := false) (by rw [← hX, slS_len, hq]) (by omega) (by omega) (by omega) rfl
          have hs : ([sl (q' + 5) 0 1 1] : List Value).all scal = false := rfl
          rw [hs] at c5
          simp only [Bool.or_false, Bool.and_false] at c5 c6
          have s3 := sw_o (A := A) (N := []) (L := L) (O := [] ++ [i]) (y := .cells [sl (q' + 5) 0 1 1] 1 false true) (J := [.dead, .cells [iv i] 1 true true]) (p := q' + 7) (p' := q' + 5) (σ := [(0, sl 0 0 n n), (1, sl 1 0 0 0), (5, sl (q' + 7) 0 (q' + 1) (q' + 1)), (21, iv n), (22, iv ((i : Int) + 1))]) (σ' := [(0, sl 0 0 n n), (1, sl 1 0 0 0), (5, sl 2 0 (q' + 1) (q' + 1)), (21, iv n), (22, iv ((i : Int) + 1))])
            (by simp only [List.length_cons, List.length_nil]; omega) (by simp only [List.length_cons, List.length_nil]; omega) (by omega) (.inl rfl) (fun f h0 h1 h2 => by simp [renT, renV_sl, renV_int, dep, h0, h1, h2])
          rw [hQ, hBl] at s3
          rw [hZ] at this
          have hLM : (L ++ [[] ++ [i]]).length = q' + 1 := by simp [hq]
          rw [hLM] at this
          generalize (L ++ [[] ++ [i]]).map nB = Q2 at s3 this
          simp only [lsB, hX] at s3
          generalize slS 3 (L ++ [[] ++ [i]]) = X2 at s3 this
          simp only [nB, nm_one, List.cons_append, List.nil_append] at s3
          simp (maxSteps := 1000000) (disch := first | omega | decide | assumption | simp [scal]) [lenA_sl lk_24, lenA_sl lk_22, o_indexAddrS es_49, ze_49, o_buildSlice es_49 ze_49 (by decide) ba_49_1, o_indexAddrS es_24, loadA_eq ia_3, ze_24, o_buildSlice es_24 ze_24 (by decide) ba_24_0, ap_24, builtin_append ni_24, o_buildSlice es_24 ze_24 (by decide) ba_24_1, ap_49, builtin_append ni_49, want_some q36_52g1, -sweep_eq, e0, e1, lb, s1, s2, s3, append_some ap_24, append_some ap_49, hl, g0, g1, t0, t1, nn, dl, src_zero, app_zero, c3, c4, c5, c6, cG, this]
    · rw [hu] at lb this
      rw [cond_true, List.append_nil] at this
      simp only [lsB, nB, Int.natCast_zero] at s1 s2 lb this ⊢
      generalize L.map (fun L => Blk.cells (nm L) 1 true true) = Q at *
      generalize Z.map (fun L => Blk.cells (nm L) 1 true true) = QZ at *
      generalize slS 3 L = X at *
      generalize slS 3 Z = XZ at *
      generalize nm B = N at *
      rw [lpB_eq]
      simp (maxSteps := 1000000) (disch := first | omega | decide | assumption | simp [scal]) [lenA_sl lk_24, lenA_sl lk_22, o_indexAddrS es_49, ze_49, o_buildSlice es_49 ze_49 (by decide) ba_49_1, o_indexAddrS es_24, loadA_eq ia_3, ze_24, o_buildSlice es_24 ze_24 (by decide) ba_24_0, ap_24, builtin_append ni_24, o_buildSlice es_24 ze_24 (by decide) ba_24_1, ap_49, builtin_append ni_49, want_some q36_52g1, -sweep_eq, e0, e1, lb, s1, s2, this]
end
end Go.Proofs.Ytfccmddkblbeoaa.rk
namespace Go.Proofs.Ytfccmddkblbeoaa.rk
open Go.GE
set_option linter.unusedVariables false
set_option linter.unusedSimpArgs false
set_option linter.unusedSectionVars false
set_option maxRecDepth 100000
set_option maxHeartbeats 4000000
attribute [local simp] runOps_nil runOps_cons runOpsF_nil runOpsF_cons fstS_some fstF_some opStep_eq want_none oStep_true oStep_false fin_pure fin_read fin_alloc fin_write storeB wrN cellV addWr o_move o_assign o_pick o_alloc o_box o_load o_store o_nilCheck o_bin o_un o_extract o_callV o_callB o_callI callV_f callV_y callV_fc o_makeFunc partsA Instr.fill builtin_len builtin_max2 bin_add bin_sub bin_mul bin_quo bin_rem bin_lss bin_leq bin_gtr bin_geq bin_eql bin_neq un_neg un_not bin_shr bin_shl wrap_u64_id opd opds optAll putO nbeq nblt constOk isC ops sub cl cr co bodyOf thenS_normal thenS_ret thenS_exit thenS_goto afterN_normal afterN_ret afterN_exit afterN_goto condS_true condS_false blockS_normal blockS_ret blockS_exit blockS_goto headS normS normK_eq fixS_nil fixS_cons fix1 fixV emptyB keepO_nil keepO_cons roundC_normal roundC_exit roundC_ret roundC_goto sweep_eq sweepD rnm pickR pickW rootsB ptrT renT ptrFn renFn ptrB_flat ptrB_non renB_flat renB_non plainS_some drawS_some fpsOk disj unord range' dropTo enumT undef wrap_i64_id Value.cells mkCells ptrTo scal cellsAt rdN endS_ret resultsA Option.bind_some tupV finish reachN dep ptrL_eq ptrL renL_eq renL ptrV_bool ptrV_int ptrV_string ptrV_nilFunc ptrV_nilIface ptrV_nilPtr ptrV_ptr ptrV_nilSl ptrV_sl ptrV_iface ptrV_agg ptrV_tuple ptrV_func renV_bool renV_int renV_string renV_nilFunc renV_nilIface renV_nilPtr renV_ptr renV_nilSl renV_sl renV_iface renV_agg renV_tuple renV_func gotoS_goto gotoS_normal gotoS_exit gotoS_ret skip_seq sliceE bnd bndHi intOf optOpd keepT_nil keepT_cons keepC_t keepC_f lk_nil lk_cons lkC_t lkC_f has_nil has_cons hasC_t hasC_f rep_nil rep_cons repC_t repC_f put_eq putC_t putC_f mem_nil mem_cons memC_t memC_f idx_nil idx_cons idxC_t idxC_f reach_nil reachP_cons reachQ_t reachQ_f ptrB_dead renB_dead ins_eq
attribute [local simp] n36_1s n36_4s n36_8s n36_11s n36_12s n36_10s n36_13s n36_9s n36_7s n36_15s n36_16s n36_14s n36_6s n36_17s n36_5s n36_3s n36_19s n36_22s n36_26s n36_29s n36_30s n36_28s n36_34s n36_36s n36_39s n36_43s n36_46s n36_47s n36_45s n36_51s n36_52s n36_50s n36_49s n36_53s n36_48s n36_44s n36_42s n36_41s n36_41g n36_40s n36_38s n36_55s n36_57s n36_58s n36_56s n36_54s n36_37s n36_35s n36_33s n36_32s n36_59s n36_31s n36_27s n36_25s n36_24s n36_24g n36_23s n36_21s n36_61s n36_62s n36_60s n36_20s n36_18s n36_2s n36_0s Try.f36
theorem nB_all {g : Nat → Option Nat} : ∀ (M : List (List Nat)), optAll (renB g) (M.map nB) = some (M.map nB) := by
  intro M
  induction M with
  | nil => rfl
  | cons O M ih => simp only [List.map_cons, optAll, renB_flat, ih]
/-- a call of two arguments that answers a list of lists -/
theorem callL_2 {f : FuncId} {args args' : List Value} {h : List Blk} {b1 b2 : Nat} {k1 k2 : Blk} (M : List (List Nat)) (hp : args.flatMap (ptrV dep) = [b1, b2]) (hb1 : h[b1]? = some k1) (hb2 : h[b2]? = some k2) (hne : b1 ≠ b2) (hn1 : noIdB k1) (hn2 : noIdB k2)
    (hr : optAll (renV (idx [b1, b2]) dep) args = some args') (he : LL.run f args' [k1, k2] = some ⟨sl 2 0 M.length M.length, lsB 3 M :: M.map nB, []⟩) (hk : idle LL f args) :
    callH LL f args h = some ⟨sl h.length 0 M.length M.length, h ++ lsB (h.length + 1) M :: M.map nB, [b1, b2], []⟩ := by
  refine callH_of hk ?_ (by have g1 := (List.getElem?_eq_some_iff.1 hb1).1; have g2 := (List.getElem?_eq_some_iff.1 hb2).1; intro b hb; simp at hb; rcases hb with rfl | rfl <;> assumption)
  unfold callH0
  rw [hp, reach_two hb1 hb2 hne hn1.2 hn2.2 (by decide)]
  simp only [hr, optAll, hb1, hb2, hn1.1, hn2.1, he]
  have hs : ∀ g : Nat → Option Nat, (∀ j, j < M.length → g (3 + j) = some (h.length + 1 + j)) → renB g (lsB 3 M) = some (lsB (h.length + 1) M) := by
    intro g hg
    rw [renB_non, slS_ren M 3 (h.length + 1) hg]
    rfl
  unfold mergeB
  simp only [dep, renV_sl, optAll]
  rw [hs _ (fun j hj => by
    have e1 : Nat.blt (3 + j) 2 = false := by rw [nblt]; simp; omega
    show (bif Nat.blt (3 + j) 2 then [b1, b2][3 + j]? else some (h.length + (3 + j - 2))) = _
    rw [e1, cond_false]
    exact congrArg some (by omega)), nB_all M]
  rfl
theorem callZ_2 {f : FuncId} {args args' : List Value} {h : List Blk} {b1 b2 n : Nat} {k1 k2 : Blk} (hp : args.flatMap (ptrV dep) = [b1, b2]) (hb1 : h[b1]? = some k1) (hb2 : h[b2]? = some k2) (hne : b1 ≠ b2) (hn1 : noIdB k1) (hn2 : noIdB k2)
    (hr : optAll (renV (idx [b1, b2]) dep) args = some args') (he : LL.run f args' [k1, k2] = some ⟨sl 2 0 1 1, [.cells [sl 1 0 n n] 1 false true], []⟩) (hk : idle LL f args) :
    callH LL f args h = some ⟨sl h.length 0 1 1, h ++ [.cells [sl b2 0 n n] 1 false true], [b1, b2], []⟩ := by
  refine callH_of hk ?_ (by have g1 := (List.getElem?_eq_some_iff.1 hb1).1; have g2 := (List.getElem?_eq_some_iff.1 hb2).1; intro b hb; simp at hb; rcases hb with rfl | rfl <;> assumption)
  unfold callH0
  rw [hp, reach_two hb1 hb2 hne hn1.2 hn2.2 (by decide)]
  simp only [hr, optAll, hb1, hb2, hn1.1, hn2.1, he]
  rfl
theorem finish_to {base : Nat} {v v' : Value} {H news : List Blk} {δ : List Nat} (hr : reach H base reachN (ptrV dep v) [] = δ) (hv : renV (rnm base δ) dep v = some v') (hb : optAll (pickR base δ H) δ = some news) : finish base v H [] = some ⟨v', news, []⟩ := by
  unfold finish
  simp only [List.flatMap_nil, List.append_nil, hr]
  show (match renV (rnm base δ) dep v, optAll (pickR base δ H) δ, (some [] : Option (List (Nat × Blk))) with
    | some v', some news, some ws => some (⟨v', news, ws⟩ : RR)
    | _, _, _ => none) = _
  rw [hv, hb]
theorem fin_L {K0 K1 : Blk} {Z : List (List Nat)} (h5 : Z.length ≤ 50000) : finish 2 (sl 2 0 Z.length Z.length) (K0 :: K1 :: lsB 3 Z :: Z.map nB) [] = some ⟨sl 2 0 Z.length Z.length, lsB 3 Z :: Z.map nB, []⟩ := by
  have hr : reach (K0 :: K1 :: lsB 3 Z :: Z.map nB) 2 reachN [2] [] = 2 :: rgN 3 Z.length := by
    rw [show reachN = 99999 + 1 from rfl, reach_new (blk := lsB 3 Z) (by omega) (by simp) rfl, ptrB_non, slS_ptr, reach_rg _ _ _ _ (by omega) (by omega) ?_, reach_nil]
    · rfl
    · intro j a b
      obtain ⟨i, rfl⟩ : ∃ i, j = i + 1 + 1 + 1 := ⟨j - 3, by omega⟩
      have hj : i < Z.length := by omega
      refine ⟨⟨nB Z[i], ?_, ptrB_flat⟩, by simp⟩
      simp only [List.getElem?_cons_succ]
      exact map_at (List.getElem?_eq_getElem hj)
  have f2 : rnm 2 (2 :: rgN 3 Z.length) 2 = some 2 := rfl
  have fL : ∀ j, j < Z.length → rnm 2 (2 :: rgN 3 Z.length) (3 + j) = some (3 + j) := by
    intro j hj
    have := idx_rgN (r := []) Z.length 3 j hj
    rw [List.append_nil] at this
    unfold rnm
    rw [nblt, decide_eq_false (by omega), cond_false, idx_cons, nbeq, decide_eq_false (by omega), idxC_f, this]
    simp only [Option.map_some]; congr 1; omega
  have hb : optAll (pickR 2 (2 :: rgN 3 Z.length) (K0 :: K1 :: lsB 3 Z :: Z.map nB)) (2 :: rgN 3 Z.length) = some (lsB 3 Z :: Z.map nB) := by
    have h2 : pickR 2 (2 :: rgN 3 Z.length) (K0 :: K1 :: lsB 3 Z :: Z.map nB) 2 = some (lsB 3 Z) := by
      unfold pickR
      simp only [List.getElem?_cons_succ, List.getElem?_cons_zero]
      rw [renB_non, slS_ren Z 3 3 fL]
      rfl
    simp only [optAll, h2]
    rw [pick_rg Z 3 (fun j O h => by rw [show 3 + j = j + 1 + 1 + 1 by omega]; simp only [List.getElem?_cons_succ]; exact map_at h)]
  have hv : renV (rnm 2 (2 :: rgN 3 Z.length)) dep (sl 2 0 Z.length Z.length) = some (sl 2 0 Z.length Z.length) := rfl
  exact finish_to hr hv hb
/-- the orders that go on from some days, as they are tried -/
def oFL (l : Nat → Int × Int) (n : Nat) : Nat → List Nat → List (List Nat)
  | 0, B => cond (risL l (ntAt B) n 0 0) [B] []
  | k + 1, B => apS (gF B (fun i => oFL l n k (B ++ [i]))) n 0
theorem apS_bound {F : Nat → List (List Nat)} {c : Nat} (h : ∀ i, (F i).length ≤ c) : ∀ q i, (apS F q i).length ≤ q * c := by
  intro q
  induction q with
  | zero => intro i; simp [apS]
  | succ q ih =>
    intro i
    have := ih (i + 1)
    have := h i
    simp only [apS, List.length_append, Nat.succ_mul]; omega
theorem oFL_bound {l : Nat → Int × Int} {n : Nat} (hn : n ≤ 5) : ∀ k B, (oFL l n k B).length ≤ 5 ^ k := by
  intro k
  induction k with
  | zero => intro B; unfold oFL; cases risL l (ntAt B) n 0 0 <;> simp
  | succ k ih =>
    intro B
    unfold oFL
    have := apS_bound (F := gF B (fun i => oFL l n k (B ++ [i]))) (c := 5 ^ k) (fun i => by
      unfold gF
      cases ucL B i B.length 0 false
      · exact ih _
      · simp) n 0
    have h2 : n * 5 ^ k ≤ 5 * 5 ^ k := Nat.mul_le_mul_right _ hn
    rw [Nat.pow_succ]; omega
section
variable {cs : List Value} {l : Nat → Int × Int} {n : Nat} (hc : SpC cs 0 n l) (hn : n ≤ 5)
include hc hn
theorem c36z {B : List Nat} (hB : B.length = n) (hx : ∀ x, x ∈ B → x < n) :
    LL.run 36 [sl 0 0 n n, sl 1 0 n n] [.cells cs 2 true true, nB B] = if risL l (ntAt B) n 0 0 = true then some ⟨sl 2 0 1 1, [.cells [sl 1 0 n n] 1 false true], []⟩ else some ⟨sl 2 0 0 0, [.cells [] 1 false true], []⟩ := by
  have hi := nm_C B
  rw [hB] at hi
  have a := fun bx => k51 0 0 n n 1 0 n n (h := .cells cs 2 true true :: nB B :: bx) rfl rfl (by decide) hc hi (by omega) (fun j hj => by
    have : B.getD j 0 ∈ B := by rw [List.getD_eq_getElem?_getD, List.getElem?_eq_getElem (by omega)]; exact List.getElem_mem _
    have := hx _ this
    unfold ntAt
    omega)
  cases hr : risL l (ntAt B) n 0 0
  · rw [if_neg (by decide)]
    refine go (by decide) ?_
    rw [run36 _ _ _ (by simp)]
    rw [hr] at a
    simp only [nB] at a ⊢
    simp (maxSteps := 1000000) (disch := first | omega | decide | assumption | simp [scal]) [lenA_sl lk_24, lenA_sl lk_22, o_indexAddrS es_49, ze_49, o_buildSlice es_49 ze_49 (by decide) ba_49_1, o_indexAddrS es_24, loadA_eq ia_3, ze_24, o_buildSlice es_24 ze_24 (by decide) ba_24_0, ap_24, builtin_append ni_24, o_buildSlice es_24 ze_24 (by decide) ba_24_1, ap_49, builtin_append ni_49, want_some q36_52g1, a]
  · rw [if_pos rfl]
    refine go (by decide) ?_
    rw [run36 _ _ _ (by simp)]
    rw [hr] at a
    simp only [nB] at a ⊢
    simp (maxSteps := 1000000) (disch := first | omega | decide | assumption | simp [scal]) [lenA_sl lk_24, lenA_sl lk_22, o_indexAddrS es_49, ze_49, o_buildSlice es_49 ze_49 (by decide) ba_49_1, o_indexAddrS es_24, loadA_eq ia_3, ze_24, o_buildSlice es_24 ze_24 (by decide) ba_24_0, ap_24, builtin_append ni_24, o_buildSlice es_24 ze_24 (by decide) ba_24_1, ap_49, builtin_append ni_49, want_some q36_52g1, a]
theorem k36 : ∀ (k : Nat) (B : List Nat), B.length + k = n → (∀ x, x ∈ B → x < n) → O36 n cs B (oFL l n k B) ∨ Z36 n cs B ∧ oFL l n k B = [B] ∧ k = 0 := by
  intro k
  induction k with
  | zero =>
    intro B hB hx
    have hB' : B.length = n := by omega
    have c := c36z hc hn hB' hx
    unfold oFL O36 Z36
    rw [hB']
    cases hr : risL l (ntAt B) n 0 0
    · rw [hr, if_neg (by decide)] at c
      refine .inl fun h b1 b2 h1 h2 hne => ?_
      exact callL_2 (M := []) rfl h1 h2 hne noIdB_flat noIdB_flat (so_ren hne rfl) c fun _ => rfl
    · rw [hr, if_pos rfl] at c
      refine .inr ⟨fun h b1 b2 h1 h2 hne => ?_, rfl, rfl⟩
      exact callZ_2 rfl h1 h2 hne noIdB_flat noIdB_flat (so_ren hne rfl) c fun _ => rfl
  | succ k ih =>
    intro B hB hx
    have hp : (5 : Nat) ^ k ≤ 5 ^ 4 := Nat.pow_le_pow_right (by decide) (by omega)
    have lp := l36 n B.length cs (B := B) rfl (by omega) hn (fun i => oFL l n k (B ++ [i])) (fun i hi => by
      have := oFL_bound (l := l) hn k (B ++ [i])
      have e : (5 : Nat) ^ 4 = 625 := rfl
      omega) (fun i hi hu => by
      rcases ih (B ++ [i]) (by simp; omega) (fun x hx' => by
        simp only [List.mem_append, List.mem_singleton] at hx'
        rcases hx' with h | rfl
        · exact hx x h
        · exact hi) with h | ⟨h, h', _⟩
      · exact .inl h
      · exact .inr ⟨h, h'⟩) n 0 [] (by omega) (by simp)
    rw [List.nil_append] at lp
    have hb := oFL_bound (l := l) hn (k + 1) B
    have hp' : (5 : Nat) ^ (k + 1) ≤ 5 ^ 5 := Nat.pow_le_pow_right (by decide) (by omega)
    have e5 : (5 : Nat) ^ 5 = 3125 := rfl
    have hZ : oFL l n (k + 1) B = apS (gF B (fun i => oFL l n k (B ++ [i]))) n 0 := rfl
    rw [← hZ] at lp
    generalize oFL l n (k + 1) B = Z at *
    have hbn : ¬ B.length = n := by omega
    have hbn' : ¬ (B.length : Int) = n := by omega
    have f1 := fin_L (K0 := .cells cs 2 true true) (K1 := nB B) (Z := Z) (by omega)
    have c : LL.run 36 [sl 0 0 n n, sl 1 0 B.length B.length] [.cells cs 2 true true, nB B] = some ⟨sl 2 0 Z.length Z.length, lsB 3 Z :: Z.map nB, []⟩ := by
      refine go (by decide) ?_
      rw [run36 _ _ _ (by simp)]
      have s1 := sw36 (A := cs) (N := nm B) (L := Z) (by omega) [(4, sl 2 0 Z.length Z.length)] (.inr (.inl rfl)) (fun f h0 h1 h2 => by simp [renT, renV_sl, dep, h2])
      have s0 := sw36 (A := cs) (N := nm B) (L := []) (by simp) [(0, sl 0 0 n n), (1, sl 1 0 B.length B.length), (5, sl 2 0 0 0), (21, iv n), (22, iv 0)] (.inl rfl) (fun f h0 h1 h2 => by simp [renT, renV_sl, renV_int, dep, h0, h1, h2])
      simp only [lsB, nB, slS, List.length_nil, List.map_nil, Int.natCast_zero] at lp s0 s1 f1 ⊢
      generalize Z.map (fun L => Blk.cells (nm L) 1 true true) = QZ at *
      generalize slS 3 Z = XZ at *
      generalize nm B = N at *
      simp (maxSteps := 1000000) (disch := first | omega | decide | assumption | simp [scal]) [lenA_sl lk_24, lenA_sl lk_22, o_indexAddrS es_49, ze_49, o_buildSlice es_49 ze_49 (by decide) ba_49_1, o_indexAddrS es_24, loadA_eq ia_3, ze_24, o_buildSlice es_24 ze_24 (by decide) ba_24_0, ap_24, builtin_append ni_24, o_buildSlice es_24 ze_24 (by decide) ba_24_1, ap_49, builtin_append ni_49, want_some q36_52g1, -sweep_eq, -finish, lp, s0, s1, f1, hbn, hbn']
    exact .inl fun h b1 b2 h1 h2 hne => callL_2 Z rfl h1 h2 hne noIdB_flat noIdB_flat (so_ren hne rfl) c fun _ => rfl
end
end Go.Proofs.Ytfccmddkblbeoaa.rk
namespace Go.Proofs.Ytfccmddkblbeoaa.rk
open Go.GE
set_option linter.unusedVariables false
set_option linter.unusedSimpArgs false
set_option linter.unusedSectionVars false
set_option maxRecDepth 100000
set_option maxHeartbeats 4000000
theorem apS_congr {F G : Nat → List (List Nat)} : ∀ q i, (∀ j, i ≤ j → j < i + q → F j = G j) → apS F q i = apS G q i := by
  intro q
  induction q with
  | zero => intro i _; rfl
  | succ q ih =>
    intro i h
    simp only [apS, h i (by omega) (by omega), ih (i + 1) fun j a b => h j (by omega) (by omega)]
theorem apS_filter {F : Nat → List (List Nat)} {p : List Nat → Bool} : ∀ q i, (apS F q i).filter p = apS (fun j => (F j).filter p) q i := by
  intro q
  induction q with
  | zero => intro i; rfl
  | succ q ih => intro i; simp only [apS, List.filter_append, ih]
theorem apS_map {F : Nat → List (List Nat)} {f : List Nat → List Nat} : ∀ q i, (apS F q i).map f = apS (fun j => (F j).map f) q i := by
  intro q
  induction q with
  | zero => intro i; rfl
  | succ q ih => intro i; simp only [apS, List.map_append, ih]
def nx0 (M i : Nat) : Bool := !M.testBit i
/-- a way on, as a test -/
def pthB (nx : Nat → Nat → Bool) : Nat → List Nat → Bool
  | _, [] => true
  | M, i :: O => nx M i && pthB nx (M ||| 2 ^ i) O
theorem ords_filter {nx : Nat → Nat → Bool} (hnx : ∀ M i, nx M i = true → M.testBit i = false) {n : Nat} : ∀ k M, ords nx n k M = (ords nx0 n k M).filter (pthB nx M) := by
  intro k
  induction k with
  | zero => intro M; rfl
  | succ k ih =>
    intro M
    simp only [ords, apS_filter]
    refine apS_congr n 0 fun i _ _ => ?_
    cases h : nx M i
    · have hf : ∀ X : List (List Nat), (X.map (i :: ·)).filter (pthB nx M) = [] := by
        intro X
        rw [List.filter_map]
        have e : (pthB nx M ∘ fun x => i :: x) = fun _ => false := by funext O; simp only [Function.comp, pthB, h, Bool.false_and]
        rw [e]
        simp
      cases nx0 M i
      · rfl
      · exact (hf _).symm
    · have h0 : nx0 M i = true := by unfold nx0; rw [hnx M i h]; rfl
      rw [h0]
      simp only [cond_true]
      rw [List.filter_map, ih]
      have e : (pthB nx M ∘ fun x => i :: x) = pthB nx (M ||| 2 ^ i) := by funext O; simp only [Function.comp, pthB, h, Bool.true_and]
      rw [e]
theorem pthB_iff {nx : Nat → Nat → Bool} {n : Nat} : ∀ (O : List Nat) (M : Nat), pth nx n M O ↔ (∀ x, x ∈ O → x < n) ∧ pthB nx M O = true := by
  intro O
  induction O with
  | nil => intro M; simp [pth, pthB]
  | cons i O ih =>
    intro M
    simp only [pth, pthB, ih, Bool.and_eq_true, List.mem_cons, forall_eq_or_imp]
    constructor
    · rintro ⟨a, b, c, d⟩; exact ⟨⟨a, c⟩, b, d⟩
    · rintro ⟨⟨a, c⟩, b, d⟩; exact ⟨a, b, c, d⟩
/-- the set of some days -/
def mkS (B : List Nat) : Nat := B.foldl (fun M i => M ||| 2 ^ i) 0
theorem mkS_app {B : List Nat} {i : Nat} : mkS (B ++ [i]) = mkS B ||| 2 ^ i := by simp [mkS]
theorem foldl_bit {t : Nat} : ∀ (B : List Nat) (M : Nat), (B.foldl (fun M i => M ||| 2 ^ i) M).testBit t = (M.testBit t || decide (t ∈ B)) := by
  intro B
  induction B with
  | nil => intro M; simp
  | cons i B ih =>
    intro M
    rw [List.foldl_cons, ih, bit_or, Bool.or_assoc]
    congr 1
    by_cases h : i = t
    · subst h; simp
    · have h' : ¬ t = i := fun e => h e.symm
      simp [h, h']
theorem mkS_bit {B : List Nat} {t : Nat} : (mkS B).testBit t = decide (t ∈ B) := by unfold mkS; rw [foldl_bit, Nat.zero_testBit, Bool.false_or]
theorem ucL_eq {B : List Nat} {i : Nat} : ∀ k j u, j + k = B.length → ucL B i k j u = (u || decide (i ∈ B.drop j)) := by
  intro k
  induction k with
  | zero => intro j u h; rw [List.drop_eq_nil_of_le (by omega)]; simp [ucL]
  | succ k ih =>
    intro j u h
    have hj : j < B.length := by omega
    have e : B.getD j 0 = B[j] := by simp [hj]
    unfold ucL
    rw [ih (j + 1) _ (by omega), List.drop_eq_getElem_cons hj, e, Bool.or_assoc]
    congr 1
    by_cases h : B[j] = i
    · rw [decide_eq_true h, Bool.true_or]
      exact (decide_eq_true (List.mem_cons.2 (.inl h.symm))).symm
    · have h' : ¬ i = B[j] := fun e => h e.symm
      rw [decide_eq_false h, Bool.false_or]
      exact decide_eq_decide.2 ⟨fun hm => List.mem_cons.2 (.inr hm), fun hm => (List.mem_cons.1 hm).resolve_left h'⟩
theorem oFL_eq {l : Nat → Int × Int} {n : Nat} : ∀ k B, oFL l n k B = ((ords nx0 n k (mkS B)).map (B ++ ·)).filter (fun O => risL l (ntAt O) n 0 0) := by
  intro k
  induction k with
  | zero =>
    intro B
    simp only [oFL, ords, List.map_cons, List.map_nil, List.append_nil, List.filter_cons, List.filter_nil]
    cases risL l (ntAt B) n 0 0 <;> rfl
  | succ k ih =>
    intro B
    simp only [oFL, ords, apS_map, apS_filter]
    refine apS_congr n 0 fun i _ _ => ?_
    unfold gF
    rw [ucL_eq _ _ _ (by omega), List.drop_zero, Bool.false_or]
    by_cases h : i ∈ B
    · have h0 : nx0 (mkS B) i = false := by simp [nx0, mkS_bit, h]
      simp [h, h0]
    · have h0 : nx0 (mkS B) i = true := by simp [nx0, mkS_bit, h]
      simp only [h, decide_false, cond_false, h0, cond_true, ih, mkS_app, List.map_map]
      congr 2
      funext O
      simp
theorem perm_of {O : List Nat} {n : Nat} (h1 : O.Nodup) (h2 : ∀ x, x ∈ O → x < n) (h3 : O.length = n) : O.Perm (List.range n) :=
  (List.perm_ext_iff_of_nodup h1 List.nodup_range).2 fun a => ⟨fun h => List.mem_range.2 (h2 a h), fun h => full_mem h1 h2 h3 (List.mem_range.1 h)⟩
theorem nx0_pth {n : Nat} : ∀ (O : List Nat) (M : Nat), pth nx0 n M O → (∀ x, x ∈ O → x < n ∧ M.testBit x = false) ∧ O.Nodup := by
  intro O
  induction O with
  | nil => intro M _; simp
  | cons i O ih =>
    rintro M ⟨h1, h2, h3⟩
    obtain ⟨g1, g2⟩ := ih _ h3
    have hb : M.testBit i = false := by simpa [nx0] using h2
    refine ⟨fun x hx => ?_, List.nodup_cons.2 ⟨fun hm => ?_, g2⟩⟩
    · rcases List.mem_cons.1 hx with rfl | hx
      · exact ⟨h1, hb⟩
      · have := g1 x hx
        rw [bit_or, Bool.or_eq_false_iff] at this
        exact ⟨this.1, this.2.1⟩
    · have := (g1 i hm).2
      rw [bit_or] at this
      simp at this
theorem all_ords {A : List (Int × Int)} {n : Nat} (H : OkM A) (hA : A.length = n) (n5 : n ≤ 5) : oFL (spAt A) n n [] = ords (nxB (spAt A) n) n n 0 := by
  rw [oFL_eq, ords_filter (nx := nxB (spAt A) n) (fun M i h => nxB_bit h)]
  have e : (fun O : List Nat => ([] : List Nat) ++ O) = id := by funext O; rfl
  rw [e, List.map_id]
  show List.filter _ (ords nx0 n n 0) = _
  refine List.filter_congr fun O hO => ?_
  obtain ⟨hl, hp⟩ := (ords_mem _ _ _).1 hO
  obtain ⟨g1, g2⟩ := nx0_pth _ _ hp
  have S : MO A O n := ⟨H, hA, hl, n5, perm_of g2 (fun x hx => (g1 x hx).1) hl⟩
  have hq : ∀ i, i < n → quiet (spAt A) i i = false := quiet_self H hA
  have h1 : pthB (nxB (spAt A) n) 0 O = true ↔ O ∈ ords (nxB (spAt A) n) n n 0 := by
    rw [ords_mem, pthB_iff]
    exact ⟨fun h => ⟨hl, fun x hx => (g1 x hx).1, h⟩, fun h => h.2.2⟩
  rw [Bool.eq_iff_iff, h1, full_iff hq, ris_eq S]
  constructor
  · intro h
    refine ⟨hl, fun x hx => (g1 x hx).1, g2, List.pairwise_iff_getElem.2 fun i j hi hj hij => ?_⟩
    have := h i j hij (by omega)
    unfold qt at this
    simpa [hi, hj] using this
  · rintro ⟨_, _, _, h⟩ i j hij hj
    have := List.pairwise_iff_getElem.1 h i j (by omega) (by omega) hij
    unfold qt
    simpa [show i < O.length by omega, show j < O.length by omega] using this
section
variable {nx : Nat → Nat → Bool} (hnx : ∀ M i, nx M i = true → M.testBit i = false) {n : Nat}
def FO (nx : Nat → Nat → Bool) (n k M i : Nat) : List (List Nat) := cond (nx M i) ((ords nx n k (M ||| 2 ^ i)).map (i :: ·)) []
include hnx
end
theorem sel_get {l : Nat → Int × Int} {n k M : Nat} {O : List Nat} : ∀ (q i x : Nat), selK l n M q i = some x → (FO (nxB l n) n k M x)[0]? = some O → (apS (FO (nxB l n) n k M) q i)[0]? = some O := by
  intro q
  induction q with
  | zero => intro i x h; cases h
  | succ q ih =>
    intro i x h hO
    simp only [selK] at h
    simp only [apS]
    by_cases hx : nxB l n M i = true
    · rw [if_pos hx] at h
      cases h
      have := (List.getElem?_eq_some_iff.1 hO).1
      rw [List.getElem?_append_left this, hO]
    · rw [if_neg hx] at h
      have e : FO (nxB l n) n k M i = [] := by unfold FO; rw [Bool.not_eq_true] at hx; rw [hx]; rfl
      rw [e, List.nil_append]
      exact ih _ _ h hO
theorem fs_get {l : Nat → Int × Int} {n : Nat} (hl : ∀ i, i < n → (l i).1 ≤ (l i).2) : ∀ (k M : Nat), cntU n M = k → (ords (nxB l n) n k M)[0]? = some (fsL l n k M) := by
  intro k
  induction k with
  | zero => intro M _; rfl
  | succ k ih =>
    intro M hM
    obtain ⟨r, h1, h2, h3, h4⟩ := sel_succ hl hM
    simp only [fsL, h1]
    have hx : nxB l n M r = true := (selK_in n 0 r h1).2.2
    refine sel_get n 0 r h1 ?_
    unfold FO
    rw [hx, cond_true, List.getElem?_map, ih _ h4]
    rfl
end Go.Proofs.Ytfccmddkblbeoaa.rk
namespace Go.Proofs.Ytfccmddkblbeoaa.rk
open Go.GE
set_option linter.unusedVariables false
set_option linter.unusedSimpArgs false
set_option linter.unusedSectionVars false
set_option maxRecDepth 100000
set_option maxHeartbeats 4000000
/-- all orders: no day is told yet -/
theorem k36n {cs : List Value} {l : Nat → Int × Int} {n b : Nat} {h : List Blk} (hb : h[b]? = some (.cells cs 2 true true)) (hc : SpC cs 0 n l) (hn : n ≤ 5) (h1 : 1 ≤ n) :
    callH LL 36 [sl b 0 n n, .slice none 0 0] h = some ⟨sl (h.length + 1) 0 (oFL l n n []).length (oFL l n n []).length, h ++ .cells [] 1 true true :: lsB (h.length + 2) (oFL l n n []) :: (oFL l n n []).map nB, [b], []⟩ := by
  have hlt := (List.getElem?_eq_some_iff.1 hb).1
  have hkk := k36 hc hn n [] (by simp) (by simp)
  rcases hkk with H | ⟨_, _, h0⟩
  · have g := H (h ++ [.cells [] 1 true true]) b h.length (by rw [List.getElem?_append_left hlt]; exact hb) (by simp [nm]) (by omega)
    rw [List.length_append] at g
    have e1 : fixA [⟨0, 0, 2, true⟩, ⟨1, 0, 1, true⟩] [sl b 0 n n, .slice none 0 0] h = ([sl b 0 n n, sl h.length 0 0 0], h ++ [.cells [] 1 true true]) := rfl
    have e2 : fixA [⟨0, 0, 2, true⟩, ⟨1, 0, 1, true⟩] [sl b 0 n n, sl h.length 0 0 0] (h ++ [.cells [] 1 true true]) = ([sl b 0 n n, sl h.length 0 0 0], h ++ [.cells [] 1 true true]) := rfl
    have r := callH_fix (E := LL) (f := 36) (K := ⟨[], [⟨0, 0, 2, true⟩, ⟨1, 0, 1, true⟩]⟩) (by kernel_rfl) e1 e2 (by simp) g
    rw [r]
    have hf : [b, h.length].filter (fun b => Nat.blt b h.length) = [b] := by simp [List.filter_cons, nblt, hlt]
    rw [hf]
    simp
  · omega
/-- the heap of a law: the argument, the month, all orders -/
theorem sweep_all {K0 : Blk} {A : List Value} {R : List Blk} {σ σ' : Tm} {M : List (List Nat)} {N p : Nat} (hm : (K0 :: R)[1]? = some (.cells A 2 true true)) (hN : (K0 :: R)[N]? = some (lsB p M)) (hM : ∀ j O, M[j]? = some O → (K0 :: R)[p + j]? = some (nB O))
    (h1 : 2 ≤ N) (h2 : N < p) (h5 : M.length ≤ 50000) (hp : ptrT σ = [1, N]) (hσ : ∀ f : Nat → Option Nat, f 1 = some 1 → f N = some 2 → renT f σ = some σ') :
    sweep 1 ⟨σ, K0 :: R, []⟩ = some ⟨σ', K0 :: .cells A 2 true true :: lsB 3 M :: M.map nB, []⟩ := by
  have hr : reach (K0 :: R) 1 reachN (ptrT σ) [] = 1 :: N :: rgN p M.length := by
    rw [hp, show reachN = 99998 + 1 + 1 from rfl, reach_new (by omega) (by simp) hm, ptrB_flat, List.nil_append, reach_new (by omega) (by simp; omega) hN, ptrB_non, slS_ptr, reach_rg _ _ _ _ (by omega) (by omega) ?_, reach_nil]
    · simp
    · intro j a b
      obtain ⟨i, rfl⟩ : ∃ i, j = p + i := ⟨j - p, by omega⟩
      refine ⟨⟨_, hM i M[i] (List.getElem?_eq_getElem (by omega)), ptrB_flat⟩, ?_⟩
      simp; omega
  generalize hδ : 1 :: N :: rgN p M.length = δ at hr
  have f1 : rnm 1 δ 1 = some 1 := by subst hδ; rfl
  have fN : rnm 1 δ N = some 2 := by
    subst hδ
    unfold rnm
    rw [nblt, decide_eq_false (by omega), cond_false, idx_cons, nbeq, decide_eq_false (by omega), idxC_f, idx_cons, nbeq, decide_eq_true rfl, idxC_t]
    rfl
  have fM : ∀ j, j < M.length → rnm 1 δ (p + j) = some (3 + j) := by
    intro j hj
    subst hδ
    have := idx_rgN (r := []) M.length p j hj
    rw [List.append_nil] at this
    unfold rnm
    rw [nblt, decide_eq_false (by omega), cond_false, idx_cons, nbeq, decide_eq_false (by omega), idxC_f, idx_cons, nbeq, decide_eq_false (by omega), idxC_f, this]
    simp only [Option.map_some]; congr 1; omega
  have hb : optAll (pickR 1 δ (K0 :: R)) δ = some (.cells A 2 true true :: lsB 3 M :: M.map nB) := by
    have e1 : pickR 1 δ (K0 :: R) 1 = some (.cells A 2 true true) := by unfold pickR; rw [hm]; rfl
    have e2 : pickR 1 δ (K0 :: R) N = some (lsB 3 M) := by
      unfold pickR
      rw [hN]
      simp only [renB_non]
      rw [slS_ren M p 3 fM]
      rfl
    have e3 := pick_rg (base := 1) (δ := δ) M p hM
    rw [show optAll (pickR 1 δ (K0 :: R)) δ = optAll (pickR 1 δ (K0 :: R)) (1 :: N :: rgN p M.length) by rw [hδ]]
    simp only [optAll, e1, e2, e3]
  rw [sweep_to hr (hσ _ f1 fN) hb]
  rfl
section
variable (K0 : Blk) {A : List (Int × Int)} {n : Nat} {M : List (List Nat)} (H : OkM A) (hA : A.length = n) (n5 : n ≤ 5) (hM : M = ords (nxB (spAt A) n) n n 0) (hk : M.length ≤ 5000)
include H hA n5 hM hk
theorem ord_MO {O : List Nat} (h : O ∈ M) : MO A O n ∧ posS (spAt A) n (ntAt O) n = 0 := by
  subst hM
  obtain ⟨h1, h2, h3, h4⟩ := (full_iff (quiet_self H hA)).1 h
  have S : MO A O n := ⟨H, hA, h1, n5, perm_of h3 h2 h1⟩
  refine ⟨S, pos_eq S fun i j hij hj => ?_⟩
  have := List.pairwise_iff_getElem.1 h4 i j (by omega) (by omega) hij
  unfold qt
  simpa [show i < O.length by omega, show j < O.length by omega] using this
end
end Go.Proofs.Ytfccmddkblbeoaa.rk
namespace Go.Proofs.Ytfccmddkblbeoaa.rk
open Go.GE
set_option linter.unusedVariables false
set_option linter.unusedSimpArgs false
set_option linter.unusedSectionVars false
set_option maxRecDepth 100000
set_option maxHeartbeats 4000000
theorem reach_pre {h : List Blk} {base : Nat} {r : List Nat} : ∀ (pre : List Nat) (n : Nat) (acc : List Nat), pre.length ≤ n → pre.Nodup → (∀ b, b ∈ pre → base ≤ b ∧ b ∉ acc ∧ ∃ blk, h[b]? = some blk ∧ ptrB blk = []) →
    reach h base n (pre ++ r) acc = reach h base (n - pre.length) r (acc ++ pre) := by
  intro pre
  induction pre with
  | nil => intro n acc _ _ _; simp
  | cons b pre ih =>
    intro n acc h1 h2 h3
    obtain ⟨n, rfl⟩ : ∃ m, n = m + 1 := ⟨n - 1, by simp at h1; omega⟩
    obtain ⟨g1, g2, blk, g3, g4⟩ := h3 b (by simp)
    obtain ⟨k1, k2⟩ := List.nodup_cons.1 h2
    rw [List.cons_append, reach_new g1 g2 g3, g4, List.nil_append, ih n (acc ++ [b]) (by simp at h1; omega) k2 (fun c hc => by
      obtain ⟨m1, m2, m3⟩ := h3 c (by simp [hc])
      refine ⟨m1, ?_, m3⟩
      simp only [List.mem_append, List.mem_singleton, not_or]
      exact ⟨m2, fun e => k1 (by rw [← e]; exact hc)⟩)]
    rw [List.length_cons, Nat.add_sub_add_right]
    simp
theorem reach_tl {h : List Blk} {base : Nat} : ∀ (r : List Nat) (n : Nat) (acc : List Nat), r.length ≤ n → (∀ b, b ∈ r → b ∈ acc) → reach h base n r acc = acc := by
  intro r
  induction r with
  | nil => intro n acc _ _; exact reach_nil
  | cons b r ih =>
    intro n acc h1 h2
    obtain ⟨n, rfl⟩ : ∃ m, n = m + 1 := ⟨n - 1, by simp at h1; omega⟩
    rw [reach_old (h2 b (by simp))]
    exact ih n acc (by simp at h1; omega) fun c hc => h2 c (by simp [hc])
theorem idx_at {r : List Nat} : ∀ (pre : List Nat) (i b : Nat), pre.Nodup → pre[i]? = some b → idx (pre ++ r) b = some i := by
  intro pre
  induction pre with
  | nil => intro i b _ h; simp at h
  | cons a pre ih =>
    intro i b hn h
    obtain ⟨k1, k2⟩ := List.nodup_cons.1 hn
    simp only [List.cons_append, idx, nbeq]
    cases i with
    | zero => simp at h; subst h; simp
    | succ i =>
      simp only [List.getElem?_cons_succ] at h
      have hm : b ∈ pre := List.mem_of_getElem? h
      have hne : ¬ a = b := fun e => k1 (by rw [e]; exact hm)
      simp only [hne, decide_false, cond_false, ih i b k2 h, Option.map_some]
theorem pick_pre {base : Nat} {δ : List Nat} {H : List Blk} : ∀ (pre : List Nat) (PB : List Blk), pre.map (fun b => H[b]?) = PB.map some → (∀ blk, blk ∈ PB → noIdB blk) → optAll (pickR base δ H) pre = some PB := by
  intro pre
  induction pre with
  | nil =>
    intro PB h _
    cases PB with
    | nil => rfl
    | cons _ _ => simp at h
  | cons b pre ih =>
    intro PB h hn
    cases PB with
    | nil => simp at h
    | cons blk PB =>
      simp only [List.map_cons, List.cons.injEq] at h
      simp only [optAll, pickR, h.1, (hn blk (by simp)).1, ih PB h.2 fun x hx => hn x (by simp [hx])]
theorem sweep_pre {base : Nat} {H : List Blk} {σ σ' : Tm} {M : List (List Nat)} {N p : Nat} (pre : List Nat) (PB : List Blk) (tl : List Nat) (hPB : pre.map (fun b => H[b]?) = PB.map some) (hfl : ∀ blk, blk ∈ PB → noIdB blk) (hnd : pre.Nodup) (hpr : ∀ b, b ∈ pre → base ≤ b ∧ b ≠ N ∧ (b < p ∨ p + M.length ≤ b))
    (hN : H[N]? = some (lsB p M)) (hM : ∀ j O, M[j]? = some O → H[p + j]? = some (nB O)) (h1 : base ≤ N) (h2 : base ≤ p) (h3 : N < p ∨ p + M.length ≤ N) (h5 : M.length ≤ 50000) (h6 : pre.length ≤ 100) (h7 : tl.length ≤ 100)
    (hp : ptrT σ = pre ++ N :: tl) (htl : ∀ b, b ∈ tl → b = N ∨ (p ≤ b ∧ b < p + M.length))
    (hσ : ∀ f : Nat → Option Nat, (∀ i b, pre[i]? = some b → f b = some (base + i)) → f N = some (base + pre.length) → (∀ j, j < M.length → f (p + j) = some (base + pre.length + 1 + j)) → renT f σ = some σ') :
    sweep base ⟨σ, H, []⟩ = some ⟨σ', H.take base ++ (PB ++ lsB (base + pre.length + 1) M :: M.map nB), []⟩ := by
  have hNp : N ∉ pre := fun h => (hpr N h).2.1 rfl
  have hr : reach H base reachN (ptrT σ) [] = pre ++ N :: rgN p M.length := by
    rw [hp, reach_pre pre reachN [] (by unfold reachN; omega) hnd fun b hb => ⟨(hpr b hb).1, by simp, by
      have hb' : ∃ blk, blk ∈ PB ∧ H[b]? = some blk := by
        have : H[b]? ∈ pre.map (fun b => H[b]?) := List.mem_map.2 ⟨b, hb, rfl⟩
        rw [hPB] at this
        obtain ⟨blk, k1, k2⟩ := List.mem_map.1 this
        exact ⟨blk, k1, k2.symm⟩
      obtain ⟨blk, k1, k2⟩ := hb'
      exact ⟨blk, k2, (hfl blk k1).2⟩⟩]
    obtain ⟨n, hn⟩ : ∃ n, reachN - pre.length = n + 1 := ⟨reachN - pre.length - 1, by unfold reachN; omega⟩
    have hn' : 60000 ≤ n := by unfold reachN at hn; omega
    rw [hn, List.nil_append, reach_new h1 hNp hN, ptrB_non, slS_ptr, reach_rg _ _ _ _ h2 (by omega) ?_, reach_tl _ _ _ (by omega) ?_]
    · simp
    · intro b hb
      rcases htl b hb with rfl | ⟨a, c⟩
      · simp
      · simp only [List.mem_append, rgN_mem]
        exact .inr ⟨a, c⟩
    · intro j a b
      obtain ⟨i, rfl⟩ : ∃ i, j = p + i := ⟨j - p, by omega⟩
      refine ⟨⟨_, hM i M[i] (List.getElem?_eq_getElem (by omega)), ptrB_flat⟩, ?_⟩
      simp only [List.mem_append, List.mem_singleton, not_or]
      refine ⟨fun hm => ?_, by omega⟩
      have := (hpr _ hm).2.2
      omega
  generalize hδ : pre ++ N :: rgN p M.length = δ at hr
  have fP : ∀ i b, pre[i]? = some b → rnm base δ b = some (base + i) := by
    intro i b h
    subst hδ
    unfold rnm
    rw [nblt, decide_eq_false (by have := (hpr b (List.mem_of_getElem? h)).1; omega), cond_false, idx_at pre i b hnd h]
    rfl
  have fN : rnm base δ N = some (base + pre.length) := by
    subst hδ
    unfold rnm
    rw [nblt, decide_eq_false (by omega), cond_false, idx_app hNp, idx_cons, nbeq, decide_eq_true rfl, idxC_t]
    rfl
  have fM : ∀ j, j < M.length → rnm base δ (p + j) = some (base + pre.length + 1 + j) := by
    intro j hj
    subst hδ
    have := idx_rgN (r := []) M.length p j hj
    rw [List.append_nil] at this
    unfold rnm
    rw [nblt, decide_eq_false (by omega), cond_false, idx_app (fun hm => by have := (hpr _ hm).2.2; omega), idx_cons, nbeq, decide_eq_false (by omega), idxC_f, this]
    simp only [Option.map_some]; congr 1; omega
  have hb : optAll (pickR base δ H) δ = some (PB ++ lsB (base + pre.length + 1) M :: M.map nB) := by
    have e2 : pickR base δ H N = some (lsB (base + pre.length + 1) M) := by
      unfold pickR
      rw [hN]
      simp only [renB_non]
      rw [slS_ren M p (base + pre.length + 1) fM]
      rfl
    have e3 := pick_rg (base := base) (δ := δ) M p hM
    have e4 : optAll (pickR base δ H) (N :: rgN p M.length) = some (lsB (base + pre.length + 1) M :: M.map nB) := by simp only [optAll, e2, e3]
    rw [show optAll (pickR base δ H) δ = optAll (pickR base δ H) (pre ++ N :: rgN p M.length) by rw [hδ]]
    exact optAll_app e4 (pick_pre pre PB hPB hfl)
  exact sweep_to hr (hσ _ fP fN fM) hb
end Go.Proofs.Ytfccmddkblbeoaa.rk
namespace Go.Proofs.Ytfccmddkblbeoaa.rk
open Go.GE
set_option linter.unusedVariables false
set_option linter.unusedSimpArgs false
set_option linter.unusedSectionVars false
set_option maxRecDepth 100000
set_option maxHeartbeats 4000000
theorem cS_one {f : Nat → Nat} {k i : Nat} : cS f (k + 1) i 0 = f i + cS f k (i + 1) 0 := by
  simp only [cS]
  rw [cS_add k (i + 1) (0 + f i)]
  omega
theorem cS_plus {f g : Nat → Nat} : ∀ k i, cS (fun t => f t + g t) k i 0 = cS f k i 0 + cS g k i 0 := by
  intro k
  induction k with
  | zero => intro i; rfl
  | succ k ih => intro i; rw [cS_one, cS_one, cS_one, ih]; omega
theorem cS_null {f : Nat → Nat} : ∀ k i, (∀ t, i ≤ t → t < i + k → f t = 0) → cS f k i 0 = 0 := by
  intro k
  induction k with
  | zero => intro i _; rfl
  | succ k ih => intro i h; rw [cS_one, h i (by omega) (by omega), ih (i + 1) fun t a b => h t (by omega) (by omega)]
theorem cS_only {f : Nat → Nat} {d : Nat} : ∀ k i, i ≤ d → d < i + k → (∀ t, i ≤ t → t < i + k → t ≠ d → f t = 0) → cS f k i 0 = f d := by
  intro k
  induction k with
  | zero => intro i _ _ _; omega
  | succ k ih =>
    intro i h1 h2 h3
    rw [cS_one]
    by_cases e : i = d
    · subst e
      rw [cS_null k (i + 1) fun t a b => h3 t (by omega) (by omega) (by omega)]
      omega
    · rw [h3 i (by omega) (by omega) e, ih (i + 1) (by omega) (by omega) fun t a b => h3 t (by omega) (by omega)]
      omega
theorem cS_swap {f : Nat → Nat → Nat} {m j : Nat} : ∀ k i, cS (fun s => cS (fun t => f s t) m j 0) k i 0 = cS (fun t => cS (fun s => f s t) k i 0) m j 0 := by
  intro k
  induction k with
  | zero => intro i; exact (cS_null m j fun t _ _ => rfl).symm
  | succ k ih =>
    intro i
    rw [cS_one, ih, ← cS_plus]
    exact cS_congr m j 0 fun t _ _ => (cS_one (f := fun s => f s t) (k := k) (i := i)).symm
theorem cS_mul {f : Nat → Nat} {c : Nat} : ∀ k i, cS (fun t => c * f t) k i 0 = c * cS f k i 0 := by
  intro k
  induction k with
  | zero => intro i; rfl
  | succ k ih => intro i; rw [cS_one, cS_one, ih, Nat.mul_add]
theorem cS_bit {F : Nat → Nat} : ∀ n i, n ≤ 5 → i < n → cS (fun s => cond (s.testBit i) 0 (F s)) (2 ^ n) 0 0 = cS (fun t => cond (t.testBit i) (F (adn t i)) 0) (2 ^ n) 0 0 := by
  intro n i hn hi
  have key : ∀ a b : Nat → Nat, ∀ k, (∀ s, s < k → a s = b s) → cS a k 0 0 = cS b k 0 0 := fun a b k h => cS_congr k 0 0 fun j _ hj => h j (by omega)
  match n, i, hn, hi with
  | 1, 0, _, _ => simp [cS, adn, Nat.testBit]
  | 2, 0, _, _ => simp [cS, adn, Nat.testBit]
  | 2, 1, _, _ => simp [cS, adn, Nat.testBit]
  | 3, 0, _, _ => simp [cS, adn, Nat.testBit]
  | 3, 1, _, _ => simp [cS, adn, Nat.testBit]
  | 3, 2, _, _ => simp [cS, adn, Nat.testBit]
  | 4, 0, _, _ => simp [cS, adn, Nat.testBit]
  | 4, 1, _, _ => simp [cS, adn, Nat.testBit]
  | 4, 2, _, _ => simp [cS, adn, Nat.testBit]
  | 4, 3, _, _ => simp [cS, adn, Nat.testBit]
  | 5, 0, _, _ => simp [cS, adn, Nat.testBit]
  | 5, 1, _, _ => simp [cS, adn, Nat.testBit]
  | 5, 2, _, _ => simp [cS, adn, Nat.testBit]
  | 5, 3, _, _ => simp [cS, adn, Nat.testBit]
  | 5, 4, _, _ => simp [cS, adn, Nat.testBit]
def eqAt (K d : Nat) (O : List Nat) : Bool := decide (O[K]? = some d)
def cAt (nx : Nat → Nat → Bool) (n k M K d : Nat) : Nat := ((ords nx n k M).filter (eqAt K d)).length
theorem cAt_zero {nx : Nat → Nat → Bool} {n k M d : Nat} (hd : d < n) : cAt nx n (k + 1) M 0 d = cond (nx M d) (cR nx n k (M ||| 2 ^ d)) 0 := by
  unfold cAt
  simp only [ords, apS_filter, apS_len]
  rw [cS_only (d := d) n 0 (by omega) (by omega) fun t _ _ ht => by
    cases nx M t
    · rfl
    · simp only [cond_true, List.filter_map, List.length_map]
      have e : (eqAt 0 d ∘ fun x => t :: x) = fun _ => false := by funext O; simp [eqAt, Function.comp, ht]
      rw [e]; simp]
  cases nx M d
  · rfl
  · simp only [cond_true, List.filter_map, List.length_map]
    have e : (eqAt 0 d ∘ fun x => d :: x) = fun _ => true := by funext O; simp [eqAt, Function.comp]
    rw [e, List.filter_eq_self.2 (fun _ _ => rfl), ords_len]
theorem cAt_succ {nx : Nat → Nat → Bool} {n k M K d : Nat} : cAt nx n (k + 1) M (K + 1) d = cS (fun i => cond (nx M i) (cAt nx n k (M ||| 2 ^ i) K d) 0) n 0 0 := by
  unfold cAt
  simp only [ords, apS_filter, apS_len]
  refine cS_congr n 0 0 fun t _ _ => ?_
  cases nx M t
  · rfl
  · simp only [cond_true, List.filter_map, List.length_map]
    have e : (eqAt (K + 1) d ∘ fun x => t :: x) = eqAt K d := by funext O; simp [eqAt, Function.comp]
    rw [e]
/-- the number of days of a set -/
def chkN : Bool := allN (fun n => allN (fun s => decide (2 ^ n ≤ s) || decide (sizeN s + cntU n s = n)) 32) 6
theorem chkN_ok : chkN = true := by kernel_rfl
theorem size_cnt {n s : Nat} (hn : n ≤ 5) (hs : s < 2 ^ n) : sizeN s + cntU n s = n := by
  have h1 := allN_spec 6 chkN_ok n (by omega)
  have h32 : 2 ^ n ≤ 2 ^ 5 := Nat.pow_le_pow_right (by decide) hn
  have h2 := allN_spec 32 h1 s (by omega)
  simp only [Bool.or_eq_true, decide_eq_true_eq] at h2
  omega
end Go.Proofs.Ytfccmddkblbeoaa.rk
namespace Go.Proofs.Ytfccmddkblbeoaa.rk
open Go.GE
set_option linter.unusedVariables false
set_option linter.unusedSimpArgs false
set_option linter.unusedSectionVars false
set_option maxRecDepth 100000
set_option maxHeartbeats 4000000
section
variable {nx : Nat → Nat → Bool} (hnx : ∀ M i, nx M i = true → M.testBit i = false) {n d K : Nat} (n5 : n ≤ 5) (hd : d < n) (hK : K < n)
def tS (nx : Nat → Nat → Bool) (n d K j : Nat) : Nat := cS (fun s => cond (decide (sizeN s = j)) (gB nx n s * cAt nx n (n - j) s (K - j) d) 0) (2 ^ n) 0 0
include n5 in
theorem low32 {s : Nat} (hs : s < 2 ^ n) : s < 2 ^ 32 := Nat.lt_of_lt_of_le hs (Nat.pow_le_pow_right (by decide) (by omega))
include n5 in
theorem tS_zero : tS nx n d K 0 = cAt nx n n 0 K d := by
  unfold tS
  have h0 : sizeN 0 = 0 := by have := size_cnt n5 (Nat.two_pow_pos n); rw [cntU_zero] at this; omega
  rw [cS_only (d := 0) (2 ^ n) 0 (by omega) (by have := Nat.two_pow_pos n; omega) fun t _ hlt ht => by
    by_cases hs : sizeN t = 0
    · have := size_cnt n5 (s := t) (by omega)
      exact absurd (none_bits (n := n) (by omega) (by omega)) ht
    · simp [hs]]
  have e : gB nx n 0 = 1 := by unfold gB; rw [cntU_zero, Nat.sub_self]; rfl
  simp [h0, e]
include hnx n5 hd hK in
theorem tS_step {j : Nat} (hj : j < K) : tS nx n d K j = tS nx n d K (j + 1) := by
  unfold tS
  generalize hG : (fun t => cAt nx n (n - (j + 1)) t (K - (j + 1)) d) = G
  have e1 : cS (fun s => cond (decide (sizeN s = j)) (gB nx n s * cAt nx n (n - j) s (K - j) d) 0) (2 ^ n) 0 0 =
      cS (fun s => cS (fun i => cond (decide (sizeN s = j)) (gB nx n s * cond (nx s i) (G (s ||| 2 ^ i)) 0) 0) n 0 0) (2 ^ n) 0 0 := by
    refine cS_congr (2 ^ n) 0 0 fun s _ _ => ?_
    by_cases hs : sizeN s = j
    · simp only [hs, decide_true, cond_true]
      rw [cS_mul, show n - j = n - (j + 1) + 1 by omega, show K - j = K - (j + 1) + 1 by omega, cAt_succ, ← hG]
    · simp only [hs, decide_false, cond_false]
      exact (cS_null n 0 fun t _ _ => rfl).symm
  have e2 : cS (fun t => cond (decide (sizeN t = j + 1)) (gB nx n t * cAt nx n (n - (j + 1)) t (K - (j + 1)) d) 0) (2 ^ n) 0 0 =
      cS (fun t => cS (fun i => cond (t.testBit i) (cond (decide (sizeN (adn t i) = j)) (gB nx n (adn t i) * cond (nx (adn t i) i) (G (adn t i ||| 2 ^ i)) 0) 0) 0) n 0 0) (2 ^ n) 0 0 := by
    refine cS_congr (2 ^ n) 0 0 fun t _ ht => ?_
    have ht' : t < 2 ^ n := by omega
    have t32 := low32 n5 ht'
    have hsz : ∀ i, i < n → t.testBit i = true → sizeN (adn t i) + 1 = sizeN t := fun i hi hb => by
      have a := size_cnt n5 ht'
      have b := size_cnt n5 (s := adn t i) (Nat.lt_of_le_of_lt adn_le ht')
      have c := cntU_adn hi (by omega) t32 hb
      omega
    by_cases hs : sizeN t = j + 1
    · have h0 : t ≠ 0 := by
        rintro rfl
        have := size_cnt n5 (Nat.two_pow_pos n)
        rw [cntU_zero] at this
        omega
      simp only [hs, decide_true, cond_true]
      rw [gB_sum (by omega) ht' h0, show cAt nx n (n - (j + 1)) t (K - (j + 1)) d = G t by rw [← hG], Nat.mul_comm, ← cS_mul]
      refine cS_congr n 0 0 fun i _ hi => ?_
      cases hb : t.testBit i
      · simp
      · have := hsz i (by omega) hb
        have e3 : sizeN (adn t i) = j := by omega
        simp only [e3, decide_true, cond_true, Bool.true_and, adn_or (show i < 32 by omega) t32 hb]
        cases nx (adn t i) i
        · simp
        · simp [Nat.mul_comm]
    · simp only [hs, decide_false, cond_false]
      refine (cS_null n 0 fun i _ hi => ?_).symm
      cases hb : t.testBit i
      · rfl
      · have := hsz i (by omega) hb
        have e3 : ¬ sizeN (adn t i) = j := by omega
        simp only [e3, decide_false, cond_false, cond_true]
  rw [e1, e2]
  refine (cS_swap _ _).trans (Eq.trans ?_ (cS_swap _ _).symm)
  refine cS_congr n 0 0 fun i _ hi => ?_
  rw [← cS_bit (F := fun s => cond (decide (sizeN s = j)) (gB nx n s * cond (nx s i) (G (s ||| 2 ^ i)) 0) 0) n i n5 (by omega)]
  refine cS_congr (2 ^ n) 0 0 fun s _ _ => ?_
  cases hb : s.testBit i
  · rfl
  · have : nx s i = false := by
      cases h : nx s i
      · rfl
      · rw [hnx s i h] at hb; cases hb
    rw [this]
    cases decide (sizeN s = j) <;> simp
include hnx n5 hd hK in
theorem tS_all : ∀ j, j ≤ K → tS nx n d K j = cAt nx n n 0 K d := by
  intro j
  induction j with
  | zero => intro _; exact tS_zero n5
  | succ j ih => intro h; rw [← tS_step hnx n5 hd hK (by omega)]; exact ih (by omega)
include hnx n5 hd hK in
theorem ch_count : hS nx n d (grL nx n K (2 ^ n) 0) (grL nx n K (2 ^ n) 0).length 0 0 = cAt nx n n 0 K d := by
  rw [ch_sum, ← tS_all hnx n5 hd hK K (by omega)]
  unfold tS
  refine cS_congr (2 ^ n) 0 0 fun s _ hs => ?_
  unfold rF hF
  have hs' : s < 2 ^ n := by omega
  have hz := size_cnt n5 hs'
  by_cases h : sizeN s = K
  · have h' : ((sizeN s : Nat) : Int) = (K : Int) := by omega
    simp only [h, h', decide_true, cond_true]
    rw [show n - K = n - K - 1 + 1 by omega, Nat.sub_self, cAt_zero hd]
    cases hx : nx s d
    · simp
    · simp only [cond_true]
      unfold gR
      have := cntU_lt (hnx s d hx) n hd
      rw [show cntU n (s ||| 2 ^ d) = n - K - 1 by omega]
  · have h' : ¬ ((sizeN s : Nat) : Int) = (K : Int) := by omega
    simp only [h, h', decide_false, cond_false]
end
end Go.Proofs.Ytfccmddkblbeoaa.rk
namespace Go.Proofs.Ytfccmddkblbeoaa.rk
open Go.GE
set_option linter.unusedVariables false
set_option linter.unusedSimpArgs false
set_option linter.unusedSectionVars false
set_option maxRecDepth 100000
set_option maxHeartbeats 4000000
def fstAB (a b : Nat) : List Nat → Nat
  | [] => 0
  | d :: O => if d = a then 1 else if d = b then 0 else fstAB a b O
def abB (a b : Nat) : Nat → List Nat → Bool
  | _, [] => true
  | M, i :: O => (!decide (i = b) || M.testBit a) && abB a b (M ||| 2 ^ i) O
theorem pth_nx2 {l : Nat → Int × Int} {n a b : Nat} : ∀ (O : List Nat) (M : Nat), pthB (nx2 l n a b) M O = (pthB (nxB l n) M O && abB a b M O) := by
  intro O
  induction O with
  | nil => intro M; rfl
  | cons i O ih =>
    intro M
    simp only [pthB, abB, ih, nx2]
    cases nxB l n M i <;> cases (!decide (i = b) || M.testBit a) <;> simp
theorem ab_set {a b : Nat} : ∀ (O : List Nat) (M : Nat), M.testBit a = true → abB a b M O = true := by
  intro O
  induction O with
  | nil => intro M _; rfl
  | cons i O ih =>
    intro M h
    simp only [abB, h, Bool.or_true, Bool.true_and]
    exact ih _ (by rw [bit_or, h]; rfl)
theorem ab_fst {a b : Nat} (hab : a ≠ b) : ∀ (O : List Nat) (M : Nat), M.testBit a = false → a ∈ O → abB a b M O = decide (fstAB a b O = 1) := by
  intro O
  induction O with
  | nil => intro M _ h; cases h
  | cons i O ih =>
    intro M h hm
    simp only [abB, fstAB, h, Bool.or_false]
    by_cases h1 : i = a
    · subst h1
      have e : abB i b (M ||| 2 ^ i) O = true := ab_set O _ (by rw [bit_or]; simp)
      simp [hab, e]
    · by_cases h2 : i = b
      · simp [h1, h2]
        intro e; exact absurd e.symm hab
      · have hm' : a ∈ O := by
          rcases List.mem_cons.1 hm with e | e
          · exact absurd e.symm h1
          · exact e
        rw [ih (M ||| 2 ^ i) (by rw [bit_or, h]; simp [h1]) hm']
        simp [h1, h2]
theorem fst_le {a b : Nat} : ∀ O : List Nat, fstAB a b O ≤ 1 := by
  intro O
  induction O with
  | nil => simp [fstAB]
  | cons i O ih =>
    unfold fstAB
    split
    · omega
    · split
      · omega
      · exact ih
theorem fst_two {a b : Nat} (hab : a ≠ b) : ∀ O : List Nat, a ∈ O → fstAB a b O + fstAB b a O = 1 := by
  intro O
  induction O with
  | nil => intro h; cases h
  | cons i O ih =>
    intro hm
    unfold fstAB
    by_cases h1 : i = a
    · subst h1; simp [hab]
    · by_cases h2 : i = b
      · subst h2; simp [h1]
      · rw [if_neg h1, if_neg h2, if_neg h2, if_neg h1]
        exact ih (by rcases List.mem_cons.1 hm with e | e
                     · exact absurd e.symm h1
                     · exact e)
/-- the orders along which one day comes before another one, counted from some place on -/
def sumF (a b : Nat) (L : List (List Nat)) : Nat := (L.map (fstAB a b)).sum
theorem sumF_filter {a b : Nat} : ∀ L : List (List Nat), sumF a b L = (L.filter fun O => decide (fstAB a b O = 1)).length := by
  intro L
  induction L with
  | nil => rfl
  | cons O L ih =>
    have := fst_le (a := a) (b := b) O
    simp only [sumF, List.map_cons, List.sum_cons, List.filter_cons] at ih ⊢
    rw [ih]
    by_cases h : fstAB a b O = 1
    · simp [h]; omega
    · have h0 : fstAB a b O = 0 := by omega
      simp [h0]
theorem sumF_two {a b : Nat} (hab : a ≠ b) : ∀ L : List (List Nat), (∀ O, O ∈ L → a ∈ O) → sumF a b L + sumF b a L = L.length := by
  intro L
  induction L with
  | nil => intro _; rfl
  | cons O L ih =>
    intro h
    have h1 := fst_two hab O (h O (by simp))
    have h2 := ih fun P hP => h P (by simp [hP])
    simp only [sumF, List.map_cons, List.sum_cons, List.length_cons] at h2 ⊢
    omega
theorem be_count {l : Nat → Int × Int} {n a b : Nat} (hl : ∀ i, i < n → quiet l i i = false) (ha : a < n) (hab : a ≠ b) : cR (nx2 l n a b) n n 0 = sumF a b (ords (nxB l n) n n 0) := by
  rw [← ords_len, sumF_filter, ords_filter (nx := nx2 l n a b) (fun M i h => nx2_bit h)]
  have e : ords (nxB l n) n n 0 = (ords nx0 n n 0).filter (pthB (nxB l n) 0) := ords_filter (nx := nxB l n) (fun M i h => nxB_bit h) n 0
  have e2 : (ords (nxB l n) n n 0).filter (fun O => decide (fstAB a b O = 1)) = (ords (nxB l n) n n 0).filter (fun O => abB a b 0 O) := by
    refine List.filter_congr fun O hO => ?_
    obtain ⟨h1, h2, h3, _⟩ := (full_iff hl).1 hO
    exact (ab_fst hab O 0 (Nat.zero_testBit a) (full_mem h3 h2 h1 ha)).symm
  rw [e2, e, List.filter_filter]
  congr 1
  refine List.filter_congr fun O _ => ?_
  rw [pth_nx2, Bool.and_comm]
theorem red_co {c N : Nat} (h : 0 < N) : Nat.gcd (c / Nat.gcd c N) (N / Nat.gcd c N) = 1 := by
  have hp := Nat.gcd_pos_of_pos_right c h
  rw [Nat.gcd_div (Nat.gcd_dvd_left c N) (Nat.gcd_dvd_right c N), Nat.div_self hp]
theorem red_eq {c N : Nat} : c / Nat.gcd c N * N = c * (N / Nat.gcd c N) := by
  obtain ⟨x, hx⟩ := Nat.gcd_dvd_left c N
  obtain ⟨y, hy⟩ := Nat.gcd_dvd_right c N
  by_cases h0 : Nat.gcd c N = 0
  · rw [Nat.gcd_eq_zero_iff] at h0
    obtain ⟨rfl, rfl⟩ := h0
    rfl
  · have hp : 0 < Nat.gcd c N := by omega
    have e1 : c / Nat.gcd c N = x := Nat.div_eq_of_eq_mul_right hp hx
    have e2 : N / Nat.gcd c N = y := Nat.div_eq_of_eq_mul_right hp hy
    rw [e1, e2]
    generalize Nat.gcd c N = g at *
    subst hx hy
    rw [← Nat.mul_assoc, Nat.mul_comm x g]
theorem red_sub {c N : Nat} (h : c ≤ N) (h0 : 0 < N) : Nat.gcd (N - c) N = Nat.gcd c N ∧ (N - c) / Nat.gcd c N = N / Nat.gcd c N - c / Nat.gcd c N := by
  have hg : Nat.gcd (N - c) N = Nat.gcd c N := by
    apply Nat.dvd_antisymm
    · refine Nat.dvd_gcd ?_ (Nat.gcd_dvd_right _ _)
      have h1 := Nat.dvd_sub (Nat.gcd_dvd_right (N - c) N) (Nat.gcd_dvd_left (N - c) N)
      rwa [show N - (N - c) = c by omega] at h1
    · exact Nat.dvd_gcd (Nat.dvd_sub (Nat.gcd_dvd_right c N) (Nat.gcd_dvd_left c N)) (Nat.gcd_dvd_right _ _)
  refine ⟨hg, ?_⟩
  obtain ⟨x, hx⟩ := Nat.gcd_dvd_left c N
  obtain ⟨y, hy⟩ := Nat.gcd_dvd_right c N
  have hp : 0 < Nat.gcd c N := Nat.gcd_pos_of_pos_right c h0
  have e1 : c / Nat.gcd c N = x := Nat.div_eq_of_eq_mul_right hp hx
  have e2 : N / Nat.gcd c N = y := Nat.div_eq_of_eq_mul_right hp hy
  rw [e1, e2]
  refine Nat.div_eq_of_eq_mul_right hp ?_
  rw [Nat.mul_sub, ← hx, ← hy]
end Go.Proofs.Ytfccmddkblbeoaa.rk
namespace Go.Proofs.Ytfccmddkblbeoaa.rk
open Go.GE
set_option linter.unusedVariables false
set_option linter.unusedSimpArgs false
set_option linter.unusedSectionVars false
set_option maxRecDepth 100000
set_option maxHeartbeats 4000000
attribute [local simp] runOps_nil runOps_cons runOpsF_nil runOpsF_cons fstS_some fstF_some opStep_eq want_none oStep_true oStep_false fin_pure fin_read fin_alloc fin_write storeB wrN cellV addWr o_move o_assign o_pick o_alloc o_box o_load o_store o_nilCheck o_bin o_un o_extract o_callV o_callB o_callI callV_f callV_y callV_fc o_makeFunc partsA Instr.fill builtin_len builtin_max2 bin_add bin_sub bin_mul bin_quo bin_rem bin_lss bin_leq bin_gtr bin_geq bin_eql bin_neq un_neg un_not bin_shr bin_shl wrap_u64_id opd opds optAll putO nbeq nblt constOk isC ops sub cl cr co bodyOf thenS_normal thenS_ret thenS_exit thenS_goto afterN_normal afterN_ret afterN_exit afterN_goto condS_true condS_false blockS_normal blockS_ret blockS_exit blockS_goto headS normS normK_eq fixS_nil fixS_cons fix1 fixV emptyB keepO_nil keepO_cons roundC_normal roundC_exit roundC_ret roundC_goto sweep_eq sweepD rnm pickR pickW rootsB ptrT renT ptrFn renFn ptrB_flat ptrB_non renB_flat renB_non plainS_some drawS_some fpsOk disj unord range' dropTo enumT undef wrap_i64_id Value.cells mkCells ptrTo scal cellsAt rdN endS_ret resultsA Option.bind_some tupV finish reachN dep ptrL_eq ptrL renL_eq renL ptrV_bool ptrV_int ptrV_string ptrV_nilFunc ptrV_nilIface ptrV_nilPtr ptrV_ptr ptrV_nilSl ptrV_sl ptrV_iface ptrV_agg ptrV_tuple ptrV_func renV_bool renV_int renV_string renV_nilFunc renV_nilIface renV_nilPtr renV_ptr renV_nilSl renV_sl renV_iface renV_agg renV_tuple renV_func gotoS_goto gotoS_normal gotoS_exit gotoS_ret skip_seq sliceE bnd bndHi intOf optOpd keepT_nil keepT_cons keepC_t keepC_f lk_nil lk_cons lkC_t lkC_f has_nil has_cons hasC_t hasC_f rep_nil rep_cons repC_t repC_f put_eq putC_t putC_f mem_nil mem_cons memC_t memC_f idx_nil idx_cons idxC_t idxC_f reach_nil reachP_cons reachQ_t reachQ_f ptrB_dead renB_dead ins_eq
attribute [local simp] n39_1s n39_4s n39_9s n39_11s n39_12s n39_10s n39_8s n39_16s n39_19s n39_20s n39_18s n39_21s n39_17s n39_15s n39_14s n39_22s n39_13s n39_7s n39_6s n39_6g n39_5s n39_3s n39_24s n39_25s n39_23s n39_2s n39_0s Try.f39
theorem co_not {x y d : Nat} (hg : Nat.gcd x y = 1) (hd : 2 ≤ d) (h1 : x % d = 0) (h2 : y % d = 0) : False := by
  have := Nat.dvd_gcd (Nat.dvd_of_mod_eq_zero h1) (Nat.dvd_of_mod_eq_zero h2)
  rw [hg] at this
  have := Nat.le_of_dvd (by omega) this
  omega
theorem l39 (x y : Nat) (hg : Nat.gcd x y = 1) (hx : x < 2 ^ 40) (hy : y < 2 ^ 40) : ∀ (q d : Nat), d + q = y + 2 → 2 ≤ d →
    lpB Try.prog LL ⟨39, 22, 0, none⟩ n39_6 n39_7 ⟨[(1, pp 0), (3, iv d)], [.cells [iv x, iv y] 1 true true], []⟩ = some (.exit 0, ⟨[], [], []⟩) := by
  intro q
  induction q with
  | zero =>
    intro d h1 h2
    have e1 : ¬ (d : Int) ≤ y := by omega
    have e2 : ¬ d ≤ y := by omega
    rw [lpB_eq]
    simp (maxSteps := 1000000) (disch := first | omega | decide | assumption | simp [scal]) [o_fieldAddr fa_42_1 (by decide), loadA_eq ia_3, o_fieldAddr fa_42_0 (by decide), want_some q39_16g5, e1, e2]
  | succ q ih =>
    intro d h1 h2
    by_cases hdy : d ≤ y
    · have e1 : (d : Int) ≤ y := by omega
      have this := ih (d + 1) (by omega) (by omega)
      simp only [cast1] at this
      have t1 := @tmod_nn x d
      have t2 := @tmod_nn y d
      have hne : ¬ (d : Int) = 0 := by omega
      have hne' : ¬ d = 0 := by omega
      by_cases h3 : x % d = 0
      · have h4 : ¬ y % d = 0 := fun h => co_not hg h2 h3 h
        generalize y % d = r2 at *
        generalize x % d = r1 at *
        have h4' : ¬ (r2 : Int) = 0 := by omega
        have h3' : (r1 : Int) = 0 := by omega
        rw [lpB_eq]
        simp (maxSteps := 1000000) (disch := first | omega | decide | assumption | simp [scal]) [o_fieldAddr fa_42_1 (by decide), loadA_eq ia_3, o_fieldAddr fa_42_0 (by decide), want_some q39_16g5, e1, hdy, t1, t2, hne, hne', h3, h4, h3', h4', this]
      · generalize y % d = r2 at *
        generalize x % d = r1 at *
        have h3' : ¬ (r1 : Int) = 0 := by omega
        rw [lpB_eq]
        simp (maxSteps := 1000000) (disch := first | omega | decide | assumption | simp [scal]) [o_fieldAddr fa_42_1 (by decide), loadA_eq ia_3, o_fieldAddr fa_42_0 (by decide), want_some q39_16g5, e1, hdy, t1, t2, hne, hne', h3, h3', this]
    · have e1 : ¬ (d : Int) ≤ y := by omega
      rw [lpB_eq]
      simp (maxSteps := 1000000) (disch := first | omega | decide | assumption | simp [scal]) [o_fieldAddr fa_42_1 (by decide), loadA_eq ia_3, o_fieldAddr fa_42_0 (by decide), want_some q39_16g5, e1, hdy]
theorem k39 (x y : Nat) (hg : Nat.gcd x y = 1) (hx : x < 2 ^ 40) (hy : y < 2 ^ 40) (h : List Blk) : callH LL 39 [.agg #[iv x, iv y]] h = some ⟨.bool true, h, [], []⟩ := by
  refine callH_none rfl (fun _ => rfl) (go (by decide) ?_) fun _ => rfl
  have lp := l39 x y hg hx hy y 2 (by omega) (by omega)
  rw [show ((2 : Nat) : Int) = 2 from rfl] at lp
  rw [run39 _ _ _ (by simp)]
  simp (maxSteps := 1000000) (disch := first | omega | decide | assumption | simp [scal]) [o_fieldAddr fa_42_1 (by decide), loadA_eq ia_3, o_fieldAddr fa_42_0 (by decide), want_some q39_16g5, lp]
end Go.Proofs.Ytfccmddkblbeoaa.rk
namespace Go.Proofs.Ytfccmddkblbeoaa.rk
open Go.GE
set_option linter.unusedVariables false
set_option linter.unusedSimpArgs false
set_option linter.unusedSectionVars false
set_option maxRecDepth 100000
set_option maxHeartbeats 4000000
attribute [local simp] runOps_nil runOps_cons runOpsF_nil runOpsF_cons fstS_some fstF_some opStep_eq want_none oStep_true oStep_false fin_pure fin_read fin_alloc fin_write storeB wrN cellV addWr o_move o_assign o_pick o_alloc o_box o_load o_store o_nilCheck o_bin o_un o_extract o_callV o_callB o_callI callV_f callV_y callV_fc o_makeFunc partsA Instr.fill builtin_len builtin_max2 bin_add bin_sub bin_mul bin_quo bin_rem bin_lss bin_leq bin_gtr bin_geq bin_eql bin_neq un_neg un_not bin_shr bin_shl wrap_u64_id opd opds optAll putO nbeq nblt constOk isC ops sub cl cr co bodyOf thenS_normal thenS_ret thenS_exit thenS_goto afterN_normal afterN_ret afterN_exit afterN_goto condS_true condS_false blockS_normal blockS_ret blockS_exit blockS_goto headS normS normK_eq fixS_nil fixS_cons fix1 fixV emptyB keepO_nil keepO_cons roundC_normal roundC_exit roundC_ret roundC_goto sweep_eq sweepD rnm pickR pickW rootsB ptrT renT ptrFn renFn ptrB_flat ptrB_non renB_flat renB_non plainS_some drawS_some fpsOk disj unord range' dropTo enumT undef wrap_i64_id Value.cells mkCells ptrTo scal cellsAt rdN endS_ret resultsA Option.bind_some tupV finish reachN dep ptrL_eq ptrL renL_eq renL ptrV_bool ptrV_int ptrV_string ptrV_nilFunc ptrV_nilIface ptrV_nilPtr ptrV_ptr ptrV_nilSl ptrV_sl ptrV_iface ptrV_agg ptrV_tuple ptrV_func renV_bool renV_int renV_string renV_nilFunc renV_nilIface renV_nilPtr renV_ptr renV_nilSl renV_sl renV_iface renV_agg renV_tuple renV_func gotoS_goto gotoS_normal gotoS_exit gotoS_ret skip_seq sliceE bnd bndHi intOf optOpd keepT_nil keepT_cons keepC_t keepC_f lk_nil lk_cons lkC_t lkC_f has_nil has_cons hasC_t hasC_f rep_nil rep_cons repC_t repC_f put_eq putC_t putC_f mem_nil mem_cons memC_t memC_f idx_nil idx_cons idxC_t idxC_f reach_nil reachP_cons reachQ_t reachQ_f ptrB_dead renB_dead ins_eq
attribute [local simp] n9_1s n9_3s n9_5s n9_7s n9_9s n9_12s n9_16s n9_19s n9_20s n9_18s n9_24s n9_26s n9_31s n9_33s n9_34s n9_32s n9_30s n9_38s n9_40s n9_43s n9_47s n9_50s n9_51s n9_49s n9_55s n9_57s n9_59s n9_60s n9_58s n9_56s n9_54s n9_53s n9_61s n9_52s n9_48s n9_46s n9_45s n9_45g n9_44s n9_42s n9_63s n9_66s n9_67s n9_65s n9_68s n9_64s n9_62s n9_41s n9_39s n9_37s n9_36s n9_69s n9_35s n9_29s n9_28s n9_28g n9_27s n9_25s n9_23s n9_22s n9_70s n9_21s n9_17s n9_15s n9_14s n9_14g n9_13s n9_11s n9_72s n9_74s n9_77s n9_80s n9_81s n9_79s n9_82s n9_78s n9_76s n9_84s n9_86s n9_89s n9_92s n9_93s n9_91s n9_94s n9_90s n9_88s n9_96s n9_99s n9_103s n9_106s n9_107s n9_105s n9_111s n9_113s n9_117s n9_120s n9_121s n9_119s n9_125s n9_128s n9_130s n9_131s n9_129s n9_127s n9_133s n9_135s n9_136s n9_134s n9_132s n9_126s n9_124s n9_123s n9_137s n9_122s n9_118s n9_116s n9_115s n9_115g n9_114s n9_112s n9_110s n9_109s n9_138s n9_108s n9_104s n9_102s n9_101s n9_101g n9_100s n9_98s n9_140s n9_141s n9_139s n9_97s n9_95s n9_87s n9_85s n9_83s n9_75s n9_73s n9_71s n9_10s n9_8s n9_6s n9_4s n9_2s n9_0s Try.f9
abbrev cBx (x y : Nat) : Blk := .cells [iv x, iv y] 1 true true
section
variable (K0 : Blk) {B1 B2 : Blk} (hB1 : noIdB B1) (hB2 : noIdB B2) {M : List (List Nat)} (hk : M.length ≤ 5000)
include hB1 hB2 hk
/-- two blocks, then a list of lists -/
theorem sw9 {R : List Blk} (σ : Tm) (tl : List Nat) (hp : ptrT σ = 1 :: 2 :: 3 :: tl) (h7 : tl.length ≤ 100) (htl : ∀ b, b ∈ tl → b = 3 ∨ (4 ≤ b ∧ b < 4 + M.length)) (hσ : ∀ f : Nat → Option Nat, f 1 = some 1 → f 2 = some 2 → f 3 = some 3 → (∀ j, j < M.length → f (4 + j) = some (4 + j)) → renT f σ = some σ) :
    sweep 1 ⟨σ, K0 :: B1 :: B2 :: lsB 4 M :: (M.map nB ++ R), []⟩ = some ⟨σ, K0 :: B1 :: B2 :: lsB 4 M :: M.map nB, []⟩ := by
  refine sweep_pre (base := 1) (H := K0 :: B1 :: B2 :: lsB 4 M :: (M.map nB ++ R)) (M := M) (N := 3) (p := 4) [1, 2] [B1, B2] tl rfl ?_ (by decide) ?_ rfl ?_ (by omega) (by omega) (by omega) (by omega) (by decide) h7 hp htl ?_
  · intro blk hb
    simp only [List.mem_cons, List.not_mem_nil, or_false] at hb
    rcases hb with rfl | rfl
    · exact hB1
    · exact hB2
  · intro b hb
    simp only [List.mem_cons, List.not_mem_nil, or_false] at hb
    omega
  · intro j O hj
    rw [show 4 + j = j + 1 + 1 + 1 + 1 by omega]
    simp only [List.getElem?_cons_succ]
    exact map_left hj
  · intro f h1 h2 h3
    exact hσ f (h1 0 1 rfl) (h1 1 2 rfl) h2 h3
end
section
variable (K0 : Blk) {A : List Value} {M : List (List Nat)} (hk : M.length ≤ 5000) {n : Nat} (hO : ∀ O, O ∈ M → O.length = n) (n5 : n ≤ 5)
include hk hO n5
theorem l9c (x y i k' kv a b : Nat) (hk' : k' < n) (hkv : k' + 1 = kv) : ∀ (q t c : Nat), t + q = M.length → c ≤ t →
    lpB Try.prog LL ⟨9, 242, 1, none⟩ n9_45 n9_46 ⟨[(12, pp 1), (13, iv 0), (14, iv c), (65, iv M.length), (66, iv t), (10, iv i), (11, iv kv), (5, sl 2 0 n n), (7, iv M.length), (8, iv a), (9, iv b), (47, iv n), (48, iv i), (6, sl 3 0 M.length M.length), (64, sl 3 0 M.length M.length)], K0 :: cBx x y :: .cells A 2 true true :: lsB 4 M :: M.map nB, []⟩ =
      some (.exit 4, ⟨[(12, pp 1), (13, iv 0), (14, iv (c + ((M.drop t).filter (eqAt k' i)).length : Nat)), (10, iv i), (11, iv kv), (5, sl 2 0 n n), (7, iv M.length), (8, iv a), (9, iv b), (47, iv n), (48, iv i), (6, sl 3 0 M.length M.length)], K0 :: cBx x y :: .cells A 2 true true :: lsB 4 M :: M.map nB, []⟩) := by
  have s1 : ∀ (c t : Int), sweep 1 ⟨[(12, pp 1), (13, iv 0), (14, iv c), (65, iv M.length), (66, iv t), (10, iv i), (11, iv kv), (5, sl 2 0 n n), (7, iv M.length), (8, iv a), (9, iv b), (47, iv n), (48, iv i), (6, sl 3 0 M.length M.length), (64, sl 3 0 M.length M.length)], K0 :: cBx x y :: .cells A 2 true true :: lsB 4 M :: (M.map nB ++ []), []⟩ = _ := fun c t =>
    sw9 K0 (B1 := cBx x y) (B2 := .cells A 2 true true) noIdB_flat noIdB_flat hk _ [3] rfl (by decide) (by simp) (fun f h1 h2 h3 _ => by simp [renT, renV_sl, renV_int, renV_ptr, dep, h1, h2, h3])
  have s2 : ∀ (c : Int), sweep 1 ⟨[(12, pp 1), (13, iv 0), (14, iv c), (10, iv i), (11, iv kv), (5, sl 2 0 n n), (7, iv M.length), (8, iv a), (9, iv b), (47, iv n), (48, iv i), (6, sl 3 0 M.length M.length)], K0 :: cBx x y :: .cells A 2 true true :: lsB 4 M :: (M.map nB ++ []), []⟩ = _ := fun c =>
    sw9 K0 (B1 := cBx x y) (B2 := .cells A 2 true true) noIdB_flat noIdB_flat hk _ [] rfl (by decide) (by simp) (fun f h1 h2 h3 _ => by simp [renT, renV_sl, renV_int, renV_ptr, dep, h1, h2, h3])
  simp only [List.append_nil] at s1 s2
  have hg : ∀ t O, M[t]? = some O → (M.map nB)[t]? = some (nB O) := fun t O h => map_at h
  have hX : ∀ t O, M[t]? = some O → (slS 4 M)[t]? = some (sl (4 + t) 0 n n) := fun t O h => by
    have := slS_get M 4 t O h
    rwa [hO O (List.mem_of_getElem? h)] at this
  simp only [cBx, lsB, nB] at s1 s2 hg ⊢
  generalize M.map (fun L => Blk.cells (nm L) 1 true true) = Q at *
  generalize slS 4 M = X at *
  intro q
  induction q with
  | zero =>
    intro t c ht hc
    obtain rfl : t = M.length := by omega
    rw [List.drop_length]
    simp only [List.filter_nil, List.length_nil, Nat.add_zero]
    rw [lpB_eq]
    simp (maxSteps := 1000000) (disch := first | omega | decide | assumption | simp [scal]) [lenA_sl lk_49, o_indexAddrA ea_60, loadA_eq ia_5, o_convI cv_5_3, lenA_sl lk_22, za_42, sz_42, o_indexAddrS es_49, loadA_eq ia_24, o_indexAddrS es_24, loadA_eq ia_3, o_fieldAddr fa_42_1 (by decide), o_fieldAddr fa_42_0 (by decide), loadA_eq ia_42, lenA_sl lk_24, want_some q9_63g2, want_some q9_63g7, want_some q9_63g13, want_some q9_63g18, want_some q9_63g29, want_some q9_77g2, want_some q9_77g6, want_some q9_77g10, want_some q9_92g2, want_some q9_92g6, want_some q9_133g3, want_some q9_140g2, want_some q9_140g6, want_some q9_140g11, want_some q9_140g17, want_some q9_140g28, want_some q9_140g35, want_some q9_140g45, -sweep_eq, s1, s2]
  | succ q ih =>
    intro t c ht hc
    have e0 : t < M.length := by omega
    have e1 : (t : Int) < M.length := by omega
    obtain ⟨O, hMt⟩ : ∃ O, M[t]? = some O := ⟨M[t], List.getElem?_eq_getElem e0⟩
    have hOn := hO O (List.mem_of_getElem? hMt)
    have g1 := hg t O hMt
    have g2 := hX t O hMt
    have g4 : ∀ (z1 z2 z3 z4 : Blk), (z1 :: z2 :: z3 :: z4 :: Q)[4 + t]? = some (.cells (nm O) 1 true true) := fun z1 z2 z3 z4 => by
      rw [show 4 + t = t + 1 + 1 + 1 + 1 by omega]; exact g1
    obtain ⟨d, hd⟩ : ∃ d, O[k']? = some d := ⟨O[k'], List.getElem?_eq_getElem (by omega)⟩
    have g3 : (nm O)[k']? = some (iv d) := by simp [nm, hd]
    have e5 : (k' : Int) < n := by omega
    have e6 : (kv : Int) - 1 = (k' : Int) := by omega
    have hdr : M.drop t = O :: M.drop (t + 1) := by
      have := List.drop_eq_getElem_cons e0
      rw [this]
      congr 1
      rw [List.getElem?_eq_getElem e0] at hMt
      exact Option.some.inj hMt
    rw [hdr, List.filter_cons]
    by_cases h : d = i
    · have hq : eqAt k' i O = true := by simp [eqAt, hd, h]
      rw [if_pos hq, List.length_cons]
      have this := ih (t + 1) (c + 1) (by omega) (by omega)
      rw [show c + (((M.drop (t + 1)).filter (eqAt k' i)).length + 1) = c + 1 + ((M.drop (t + 1)).filter (eqAt k' i)).length by omega]
      generalize c + 1 + ((M.drop (t + 1)).filter (eqAt k' i)).length = Z at *
      have h' : (d : Int) = i := by omega
      simp only [cast1] at this ⊢
      clear ih
      generalize 4 + t = oi at *
      rw [lpB_eq]
      simp (maxSteps := 1000000) (disch := first | omega | decide | assumption | simp [scal]) [lenA_sl lk_49, o_indexAddrA ea_60, loadA_eq ia_5, o_convI cv_5_3, lenA_sl lk_22, za_42, sz_42, o_indexAddrS es_49, loadA_eq ia_24, o_indexAddrS es_24, loadA_eq ia_3, o_fieldAddr fa_42_1 (by decide), o_fieldAddr fa_42_0 (by decide), loadA_eq ia_42, lenA_sl lk_24, want_some q9_63g2, want_some q9_63g7, want_some q9_63g13, want_some q9_63g18, want_some q9_63g29, want_some q9_77g2, want_some q9_77g6, want_some q9_77g10, want_some q9_92g2, want_some q9_92g6, want_some q9_133g3, want_some q9_140g2, want_some q9_140g6, want_some q9_140g11, want_some q9_140g17, want_some q9_140g28, want_some q9_140g35, want_some q9_140g45, -sweep_eq, e0, e1, e5, e6, g2, g3, g4, s1, s2, h', this]
    · have hq : ¬ eqAt k' i O = true := by simp [eqAt, hd, h]
      rw [if_neg hq]
      have this := ih (t + 1) c (by omega) (by omega)
      generalize c + ((M.drop (t + 1)).filter (eqAt k' i)).length = Z at *
      have h' : ¬ (d : Int) = i := by omega
      simp only [cast1] at this ⊢
      clear ih
      generalize 4 + t = oi at *
      rw [lpB_eq]
      simp (maxSteps := 1000000) (disch := first | omega | decide | assumption | simp [scal]) [lenA_sl lk_49, o_indexAddrA ea_60, loadA_eq ia_5, o_convI cv_5_3, lenA_sl lk_22, za_42, sz_42, o_indexAddrS es_49, loadA_eq ia_24, o_indexAddrS es_24, loadA_eq ia_3, o_fieldAddr fa_42_1 (by decide), o_fieldAddr fa_42_0 (by decide), loadA_eq ia_42, lenA_sl lk_24, want_some q9_63g2, want_some q9_63g7, want_some q9_63g13, want_some q9_63g18, want_some q9_63g29, want_some q9_77g2, want_some q9_77g6, want_some q9_77g10, want_some q9_92g2, want_some q9_92g6, want_some q9_133g3, want_some q9_140g2, want_some q9_140g6, want_some q9_140g11, want_some q9_140g17, want_some q9_140g28, want_some q9_140g35, want_some q9_140g45, -sweep_eq, e0, e1, e5, e6, g2, g3, g4, s1, s2, h', this]
end
end Go.Proofs.Ytfccmddkblbeoaa.rk
namespace Go.Proofs.Ytfccmddkblbeoaa.rk
open Go.GE
set_option linter.unusedVariables false
set_option linter.unusedSimpArgs false
set_option linter.unusedSectionVars false
set_option maxRecDepth 100000
set_option maxHeartbeats 4000000
section
variable {A : List (Int × Int)} {n : Nat} {M : List (List Nat)} (H : OkM A) (hA : A.length = n) (n5 : n ≤ 5) (hM : M = ords (nxB (spAt A) n) n n 0)
include H hA n5 hM
theorem all_len : gR (nxB (spAt A) n) n 0 = M.length := by rw [gR_zero, hM, ords_len]
/-- the chance of a rank -/
theorem ch_val {i k : Nat} (hi : i < n) (h1 : 1 ≤ k) (h2 : k ≤ n) : chE (spAt A) n i k = 0 ∧ chV (spAt A) n i k = redV ((M.filter (eqAt (k - 1) i)).length) M.length := by
  have hc := cnt_ok H hA n5
  have e : chE (spAt A) n i k = 0 := by
    unfold chE
    rw [if_pos hc.1, if_pos (by simp; omega), if_pos (by simp; omega)]
  refine ⟨e, ?_⟩
  unfold chV
  have hz : ((k : Int) - 1) = ((k - 1 : Nat) : Int) := by omega
  rw [if_pos e, all_len H hA n5 hM, hz, Int.toNat_natCast, ch_count (fun M i h => nxB_bit h) n5 hi (by omega)]
  subst hM
  rfl
/-- which of two days comes first -/
theorem be_val {a b : Nat} (ha : a < n) (hb : b < n) (hab : a ≠ b) : beE (spAt A) n a b = 0 ∧ beV (spAt A) n a b = redV (sumF a b M) M.length := by
  have hc := cnt_ok H hA n5
  have e : beE (spAt A) n a b = 0 := by
    unfold beE inR
    rw [if_pos hc.1, if_pos (by simp; omega), if_neg (by omega)]
  refine ⟨e, ?_⟩
  unfold beV
  rw [if_pos e, all_len H hA n5 hM, Int.toNat_natCast, Int.toNat_natCast, be_count (quiet_self H hA) ha hab]
  subst hM
  rfl
end
end Go.Proofs.Ytfccmddkblbeoaa.rk
namespace Go.Proofs.Ytfccmddkblbeoaa.rk
open Go.GE
set_option linter.unusedVariables false
set_option linter.unusedSimpArgs false
set_option linter.unusedSectionVars false
set_option maxRecDepth 100000
set_option maxHeartbeats 4000000
section
variable (K0 : Blk) {A : List Value} {M : List (List Nat)} (hk : M.length ≤ 5000)
include hk
/-- a box behind the lists comes to the front -/
theorem sw9a {B1 : Blk} (hB1 : noIdB B1) (σ σ' : Tm) (tl : List Nat) (hp : ptrT σ = (M.length + 3) :: 1 :: 2 :: tl) (h7 : tl.length ≤ 100) (htl : ∀ b, b ∈ tl → b = 2) (hσ : ∀ f : Nat → Option Nat, f (M.length + 3) = some 1 → f 1 = some 2 → f 2 = some 3 → renT f σ = some σ') :
    sweep 1 ⟨σ, K0 :: .cells A 2 true true :: lsB 3 M :: (M.map nB ++ [B1]), []⟩ = some ⟨σ', K0 :: B1 :: .cells A 2 true true :: lsB 4 M :: M.map nB, []⟩ := by
  refine sweep_pre (base := 1) (H := K0 :: .cells A 2 true true :: lsB 3 M :: (M.map nB ++ [B1])) (M := M) (N := 2) (p := 3) [M.length + 3, 1] [B1, .cells A 2 true true] tl ?_ ?_ (by simp) ?_ rfl ?_ (by omega) (by omega) (by omega) (by omega) (by simp) h7 hp (fun b hb => .inl (htl b hb)) ?_
  · simp only [List.map_cons, List.map_nil, List.getElem?_cons_succ]
    rw [List.getElem?_append_right (by simp)]
    simp
  · intro blk hb
    simp only [List.mem_cons, List.not_mem_nil, or_false] at hb
    rcases hb with rfl | rfl
    · exact hB1
    · exact noIdB_flat
  · intro b hb
    simp only [List.mem_cons, List.not_mem_nil, or_false] at hb
    omega
  · intro j O hj
    rw [show 3 + j = j + 1 + 1 + 1 by omega]
    simp only [List.getElem?_cons_succ]
    exact map_left hj
  · intro f h1 h2 h3
    exact hσ f (h1 0 _ rfl) (h1 1 1 rfl) h2
/-- the box is left out -/
theorem sw9b {B1 : Blk} (σ σ' : Tm) (tl : List Nat) (hp : ptrT σ = 2 :: 3 :: tl) (h7 : tl.length ≤ 100) (htl : ∀ b, b ∈ tl → b = 3) (hσ : ∀ f : Nat → Option Nat, f 2 = some 1 → f 3 = some 2 → renT f σ = some σ') :
    sweep 1 ⟨σ, K0 :: B1 :: .cells A 2 true true :: lsB 4 M :: M.map nB, []⟩ = some ⟨σ', K0 :: .cells A 2 true true :: lsB 3 M :: M.map nB, []⟩ := by
  refine sweep_pre (base := 1) (H := K0 :: B1 :: .cells A 2 true true :: lsB 4 M :: M.map nB) (M := M) (N := 3) (p := 4) [2] [.cells A 2 true true] tl rfl ?_ (by decide) ?_ rfl ?_ (by omega) (by omega) (by omega) (by omega) (by decide) h7 hp (fun b hb => .inl (htl b hb)) ?_
  · intro blk hb
    simp only [List.mem_cons, List.not_mem_nil, or_false] at hb
    subst hb
    exact noIdB_flat
  · intro b hb
    simp only [List.mem_cons, List.not_mem_nil, or_false] at hb
    omega
  · intro j O hj
    rw [show 4 + j = j + 1 + 1 + 1 + 1 by omega]
    simp only [List.getElem?_cons_succ]
    exact map_at hj
  · intro f h1 h2 h3
    exact hσ f (h1 0 2 rfl) h2
/-- nothing is left out -/
theorem sw9d (σ : Tm) (hp : ptrT σ = [1, 2]) (hσ : ∀ f : Nat → Option Nat, f 1 = some 1 → f 2 = some 2 → renT f σ = some σ) :
    sweep 1 ⟨σ, K0 :: .cells A 2 true true :: lsB 3 M :: M.map nB, []⟩ = some ⟨σ, K0 :: .cells A 2 true true :: lsB 3 M :: M.map nB, []⟩ := by
  refine sweep_all (K0 := K0) (R := .cells A 2 true true :: lsB 3 M :: M.map nB) (M := M) (N := 2) (p := 3) rfl rfl ?_ (by omega) (by omega) (by omega) hp hσ
  intro j O hj
  rw [show 3 + j = j + 1 + 1 + 1 by omega]
  simp only [List.getElem?_cons_succ]
  exact map_at hj
end
end Go.Proofs.Ytfccmddkblbeoaa.rk
namespace Go.Proofs.Ytfccmddkblbeoaa.rk
open Go.GE
set_option linter.unusedVariables false
set_option linter.unusedSimpArgs false
set_option linter.unusedSectionVars false
set_option maxRecDepth 100000
set_option maxHeartbeats 4000000
attribute [local simp] runOps_nil runOps_cons runOpsF_nil runOpsF_cons fstS_some fstF_some opStep_eq want_none oStep_true oStep_false fin_pure fin_read fin_alloc fin_write storeB wrN cellV addWr o_move o_assign o_pick o_alloc o_box o_load o_store o_nilCheck o_bin o_un o_extract o_callV o_callB o_callI callV_f callV_y callV_fc o_makeFunc partsA Instr.fill builtin_len builtin_max2 bin_add bin_sub bin_mul bin_quo bin_rem bin_lss bin_leq bin_gtr bin_geq bin_eql bin_neq un_neg un_not bin_shr bin_shl wrap_u64_id opd opds optAll putO nbeq nblt constOk isC ops sub cl cr co bodyOf thenS_normal thenS_ret thenS_exit thenS_goto afterN_normal afterN_ret afterN_exit afterN_goto condS_true condS_false blockS_normal blockS_ret blockS_exit blockS_goto headS normS normK_eq fixS_nil fixS_cons fix1 fixV emptyB keepO_nil keepO_cons roundC_normal roundC_exit roundC_ret roundC_goto sweep_eq sweepD rnm pickR pickW rootsB ptrT renT ptrFn renFn ptrB_flat ptrB_non renB_flat renB_non plainS_some drawS_some fpsOk disj unord range' dropTo enumT undef wrap_i64_id Value.cells mkCells ptrTo scal cellsAt rdN endS_ret resultsA Option.bind_some tupV finish reachN dep ptrL_eq ptrL renL_eq renL ptrV_bool ptrV_int ptrV_string ptrV_nilFunc ptrV_nilIface ptrV_nilPtr ptrV_ptr ptrV_nilSl ptrV_sl ptrV_iface ptrV_agg ptrV_tuple ptrV_func renV_bool renV_int renV_string renV_nilFunc renV_nilIface renV_nilPtr renV_ptr renV_nilSl renV_sl renV_iface renV_agg renV_tuple renV_func gotoS_goto gotoS_normal gotoS_exit gotoS_ret skip_seq sliceE bnd bndHi intOf optOpd keepT_nil keepT_cons keepC_t keepC_f lk_nil lk_cons lkC_t lkC_f has_nil has_cons hasC_t hasC_f rep_nil rep_cons repC_t repC_f put_eq putC_t putC_f mem_nil mem_cons memC_t memC_f idx_nil idx_cons idxC_t idxC_f reach_nil reachP_cons reachQ_t reachQ_f ptrB_dead renB_dead ins_eq
attribute [local simp] n9_1s n9_3s n9_5s n9_7s n9_9s n9_12s n9_16s n9_19s n9_20s n9_18s n9_24s n9_26s n9_31s n9_33s n9_34s n9_32s n9_30s n9_38s n9_40s n9_43s n9_47s n9_50s n9_51s n9_49s n9_55s n9_57s n9_59s n9_60s n9_58s n9_56s n9_54s n9_53s n9_61s n9_52s n9_48s n9_46s n9_45s n9_45g n9_44s n9_42s n9_63s n9_66s n9_67s n9_65s n9_68s n9_64s n9_62s n9_41s n9_39s n9_37s n9_36s n9_69s n9_35s n9_29s n9_28s n9_28g n9_27s n9_25s n9_23s n9_22s n9_70s n9_21s n9_17s n9_15s n9_14s n9_14g n9_13s n9_11s n9_72s n9_74s n9_77s n9_80s n9_81s n9_79s n9_82s n9_78s n9_76s n9_84s n9_86s n9_89s n9_92s n9_93s n9_91s n9_94s n9_90s n9_88s n9_96s n9_99s n9_103s n9_106s n9_107s n9_105s n9_111s n9_113s n9_117s n9_120s n9_121s n9_119s n9_125s n9_128s n9_130s n9_131s n9_129s n9_127s n9_133s n9_135s n9_136s n9_134s n9_132s n9_126s n9_124s n9_123s n9_137s n9_122s n9_118s n9_116s n9_115s n9_115g n9_114s n9_112s n9_110s n9_109s n9_138s n9_108s n9_104s n9_102s n9_101s n9_101g n9_100s n9_98s n9_140s n9_141s n9_139s n9_97s n9_95s n9_87s n9_85s n9_83s n9_75s n9_73s n9_71s n9_10s n9_8s n9_6s n9_4s n9_2s n9_0s Try.f9
section
variable (K0 : Blk) {A : List (Int × Int)} {n : Nat} {M : List (List Nat)} (H : OkM A) (hA : A.length = n) (n5 : n ≤ 5) (hM : M = ords (nxB (spAt A) n) n n 0) (hk : M.length ≤ 5000) (h1 : 1 ≤ n) (hN : 0 < M.length)
include H hA n5 hM hk h1 hN
theorem l9b (i a b : Nat) (hi : i < n) : ∀ (q k : Nat), k + q = n + 1 → 1 ≤ k →
    lpB Try.prog LL ⟨9, 242, 1, none⟩ n9_28 n9_29 ⟨[(10, iv i), (11, iv k), (5, sl 1 0 n n), (7, iv M.length), (8, iv a), (9, iv b), (47, iv n), (48, iv i), (6, sl 2 0 M.length M.length)], K0 :: spB A :: lsB 3 M :: M.map nB, []⟩ =
      some (.exit 2, ⟨[(5, sl 1 0 n n), (7, iv M.length), (8, iv a), (9, iv b), (47, iv n), (48, iv i), (6, sl 2 0 M.length M.length)], K0 :: spB A :: lsB 3 M :: M.map nB, []⟩) := by
  have hO : ∀ O, O ∈ M → O.length = n := fun O h => (ord_MO H hA n5 hM hk h).1.lo
  have s3 := sw9d K0 (A := A.flatMap spG) hk [(5, sl 1 0 n n), (7, iv M.length), (8, iv a), (9, iv b), (47, iv n), (48, iv i), (6, sl 2 0 M.length M.length)] rfl (fun f h1 h2 => by simp [renT, renV_sl, renV_int, dep, h1, h2])
  intro q
  induction q with
  | zero =>
    intro k hq hk1
    have e1 : ¬ (k : Int) ≤ n := by omega
    have e2 : ¬ k ≤ n := by omega
    simp only [spB, lsB, nB] at s3 ⊢
    generalize M.map (fun L => Blk.cells (nm L) 1 true true) = Q at *
    generalize slS 3 M = X at *
    generalize A.flatMap spG = N at *
    rw [lpB_eq]
    simp (maxSteps := 1000000) (disch := first | omega | decide | assumption | simp [scal]) [lenA_sl lk_49, o_indexAddrA ea_60, loadA_eq ia_5, o_convI cv_5_3, lenA_sl lk_22, za_42, sz_42, o_indexAddrS es_49, loadA_eq ia_24, o_indexAddrS es_24, loadA_eq ia_3, o_fieldAddr fa_42_1 (by decide), o_fieldAddr fa_42_0 (by decide), loadA_eq ia_42, lenA_sl lk_24, want_some q9_63g2, want_some q9_63g7, want_some q9_63g13, want_some q9_63g18, want_some q9_63g29, want_some q9_77g2, want_some q9_77g6, want_some q9_77g10, want_some q9_92g2, want_some q9_92g6, want_some q9_133g3, want_some q9_140g2, want_some q9_140g6, want_some q9_140g11, want_some q9_140g17, want_some q9_140g28, want_some q9_140g35, want_some q9_140g45, -sweep_eq, e1, e2, s3]
  | succ q ih =>
    intro k hq hk1
    have e1 : (k : Int) ≤ n := by omega
    have e2 : k ≤ n := by omega
    have this := ih (k + 1) (by omega) (by omega)
    simp only [cast1] at this
    have sA := spAt_C A
    rw [hA] at sA
    obtain ⟨v1, v2⟩ := ch_val H hA n5 hM hi hk1 e2
    have a31 := k31 1 0 n n (h := K0 :: spB A :: lsB 3 M :: M.map nB) rfl sA (by omega) (fun _ => by omega) i k
    rw [v1, v2] at a31
    unfold redV at a31
    have hcc : (M.filter (eqAt (k - 1) i)).length ≤ M.length := List.length_filter_le _ _
    have hd0 : ((M.drop 0).filter (eqAt (k - 1) i)).length = (M.filter (eqAt (k - 1) i)).length := rfl
    have lc := fun x y => l9c K0 (A := A.flatMap spG) hk hO n5 x y i (k - 1) k a b (by omega) (by omega) M.length 0 0 (by omega) (by omega)
    rw [hd0, Nat.zero_add] at lc
    generalize (M.filter (eqAt (k - 1) i)).length = cc at *
    have r1 := red_co (c := cc) hN
    have r2 := red_eq (c := cc) (N := M.length)
    have r3 := Nat.div_le_self cc (Nat.gcd cc M.length)
    have r4 := Nat.div_le_self M.length (Nat.gcd cc M.length)
    have r5 : 1 ≤ M.length / Nat.gcd cc M.length := Nat.div_pos (Nat.le_of_dvd hN (Nat.gcd_dvd_right _ _)) (Nat.gcd_pos_of_pos_right _ hN)
    generalize cc / Nat.gcd cc M.length = x at *
    generalize M.length / Nat.gcd cc M.length = y at *
    have a39 := fun h => k39 x y r1 (by omega) (by omega) h
    have b1 : x * M.length ≤ 5000 * 5000 := Nat.mul_le_mul (by omega) hk
    have w1 : IntKind.i64.wrap ((x : Int) * (M.length : Int)) = ((x * M.length : Nat) : Int) := by rw [← Int.natCast_mul]; exact wrap_nn (by omega)
    have w2 : IntKind.i64.wrap ((cc : Int) * (y : Int)) = ((x * M.length : Nat) : Int) := by rw [← Int.natCast_mul, ← r2]; exact wrap_nn (by omega)
    have q1 : ¬ (y : Int) < 1 := by omega
    have q2 : ¬ (M.length : Int) < (y : Int) := by omega
    have q2' : ¬ M.length < y := by omega
    have q3 : ¬ (x : Int) < 0 := by omega
    have q4 : ¬ y = 0 := by omega
    have s1 := sw9a K0 (A := A.flatMap spG) hk (B1 := cBx x y) noIdB_flat [(12, pp (M.length + 3)), (13, iv 0), (14, iv 0), (65, iv M.length), (66, iv 0), (10, iv i), (11, iv k), (5, sl 1 0 n n), (7, iv M.length), (8, iv a), (9, iv b), (47, iv n), (48, iv i), (6, sl 2 0 M.length M.length), (64, sl 2 0 M.length M.length)]
      [(12, pp 1), (13, iv 0), (14, iv 0), (65, iv M.length), (66, iv 0), (10, iv i), (11, iv k), (5, sl 2 0 n n), (7, iv M.length), (8, iv a), (9, iv b), (47, iv n), (48, iv i), (6, sl 3 0 M.length M.length), (64, sl 3 0 M.length M.length)] [2] rfl (by decide) (by simp) (fun f h1 h2 h3 => by simp [renT, renV_sl, renV_int, renV_ptr, dep, h1, h2, h3])
    have s2 := sw9b K0 (A := A.flatMap spG) hk (B1 := cBx x y) [(10, iv i), (11, iv ((k : Int) + 1)), (5, sl 2 0 n n), (7, iv M.length), (8, iv a), (9, iv b), (47, iv n), (48, iv i), (6, sl 3 0 M.length M.length)]
      [(10, iv i), (11, iv ((k : Int) + 1)), (5, sl 1 0 n n), (7, iv M.length), (8, iv a), (9, iv b), (47, iv n), (48, iv i), (6, sl 2 0 M.length M.length)] [] rfl (by decide) (by simp) (fun f h1 h2 => by simp [renT, renV_sl, renV_int, dep, h1, h2])
    have hQ : (M.map nB).length = M.length := by simp
    have gq : ∀ z, (M.map nB ++ [z])[M.length]? = some z := fun z => by rw [List.getElem?_append_right (by simp)]; simp
    have tq : ∀ z z', (M.map nB ++ [z]).set M.length z' = M.map nB ++ [z'] := fun z z' => by rw [List.set_append_right _ _ (by simp)]; simp
    clear ih hd0 hcc r1 r2 r3 r4 b1 sA v1 v2 hO
    simp only [cBx, spB, lsB, nB, Int.natCast_zero, List.cons_append] at a31 lc s1 s2 s3 hQ gq tq this ⊢
    generalize M.map (fun L => Blk.cells (nm L) 1 true true) = Q at *
    generalize slS 3 M = X at *
    generalize slS 4 M = Y at *
    generalize A.flatMap spG = N at *
    generalize ((x * M.length : Nat) : Int) = Z at *
    have nn : ∀ a b : Nat, M.length + a + b = M.length + (a + b) := fun a b => Nat.add_assoc _ a b
    generalize M.length = k' at *
    rw [lpB_eq]
    simp (maxSteps := 1000000) (disch := first | omega | decide | assumption | simp [scal]) [lenA_sl lk_49, o_indexAddrA ea_60, loadA_eq ia_5, o_convI cv_5_3, lenA_sl lk_22, za_42, sz_42, o_indexAddrS es_49, loadA_eq ia_24, o_indexAddrS es_24, loadA_eq ia_3, o_fieldAddr fa_42_1 (by decide), o_fieldAddr fa_42_0 (by decide), loadA_eq ia_42, lenA_sl lk_24, want_some q9_63g2, want_some q9_63g7, want_some q9_63g13, want_some q9_63g18, want_some q9_63g29, want_some q9_77g2, want_some q9_77g6, want_some q9_77g10, want_some q9_92g2, want_some q9_92g6, want_some q9_133g3, want_some q9_140g2, want_some q9_140g6, want_some q9_140g11, want_some q9_140g17, want_some q9_140g28, want_some q9_140g35, want_some q9_140g45, -sweep_eq, e1, e2, a31, a39, hQ, gq, tq, nn, lc, s1, s2, s3, q1, q2, q2', q3, q4, w1, w2, this]
end
end Go.Proofs.Ytfccmddkblbeoaa.rk
namespace Go.Proofs.Ytfccmddkblbeoaa.rk
open Go.GE
set_option linter.unusedVariables false
set_option linter.unusedSimpArgs false
set_option linter.unusedSectionVars false
set_option maxRecDepth 100000
set_option maxHeartbeats 4000000
attribute [local simp] runOps_nil runOps_cons runOpsF_nil runOpsF_cons fstS_some fstF_some opStep_eq want_none oStep_true oStep_false fin_pure fin_read fin_alloc fin_write storeB wrN cellV addWr o_move o_assign o_pick o_alloc o_box o_load o_store o_nilCheck o_bin o_un o_extract o_callV o_callB o_callI callV_f callV_y callV_fc o_makeFunc partsA Instr.fill builtin_len builtin_max2 bin_add bin_sub bin_mul bin_quo bin_rem bin_lss bin_leq bin_gtr bin_geq bin_eql bin_neq un_neg un_not bin_shr bin_shl wrap_u64_id opd opds optAll putO nbeq nblt constOk isC ops sub cl cr co bodyOf thenS_normal thenS_ret thenS_exit thenS_goto afterN_normal afterN_ret afterN_exit afterN_goto condS_true condS_false blockS_normal blockS_ret blockS_exit blockS_goto headS normS normK_eq fixS_nil fixS_cons fix1 fixV emptyB keepO_nil keepO_cons roundC_normal roundC_exit roundC_ret roundC_goto sweep_eq sweepD rnm pickR pickW rootsB ptrT renT ptrFn renFn ptrB_flat ptrB_non renB_flat renB_non plainS_some drawS_some fpsOk disj unord range' dropTo enumT undef wrap_i64_id Value.cells mkCells ptrTo scal cellsAt rdN endS_ret resultsA Option.bind_some tupV finish reachN dep ptrL_eq ptrL renL_eq renL ptrV_bool ptrV_int ptrV_string ptrV_nilFunc ptrV_nilIface ptrV_nilPtr ptrV_ptr ptrV_nilSl ptrV_sl ptrV_iface ptrV_agg ptrV_tuple ptrV_func renV_bool renV_int renV_string renV_nilFunc renV_nilIface renV_nilPtr renV_ptr renV_nilSl renV_sl renV_iface renV_agg renV_tuple renV_func gotoS_goto gotoS_normal gotoS_exit gotoS_ret skip_seq sliceE bnd bndHi intOf optOpd keepT_nil keepT_cons keepC_t keepC_f lk_nil lk_cons lkC_t lkC_f has_nil has_cons hasC_t hasC_f rep_nil rep_cons repC_t repC_f put_eq putC_t putC_f mem_nil mem_cons memC_t memC_f idx_nil idx_cons idxC_t idxC_f reach_nil reachP_cons reachQ_t reachQ_f ptrB_dead renB_dead ins_eq
attribute [local simp] n9_1s n9_3s n9_5s n9_7s n9_9s n9_12s n9_16s n9_19s n9_20s n9_18s n9_24s n9_26s n9_31s n9_33s n9_34s n9_32s n9_30s n9_38s n9_40s n9_43s n9_47s n9_50s n9_51s n9_49s n9_55s n9_57s n9_59s n9_60s n9_58s n9_56s n9_54s n9_53s n9_61s n9_52s n9_48s n9_46s n9_45s n9_45g n9_44s n9_42s n9_63s n9_66s n9_67s n9_65s n9_68s n9_64s n9_62s n9_41s n9_39s n9_37s n9_36s n9_69s n9_35s n9_29s n9_28s n9_28g n9_27s n9_25s n9_23s n9_22s n9_70s n9_21s n9_17s n9_15s n9_14s n9_14g n9_13s n9_11s n9_72s n9_74s n9_77s n9_80s n9_81s n9_79s n9_82s n9_78s n9_76s n9_84s n9_86s n9_89s n9_92s n9_93s n9_91s n9_94s n9_90s n9_88s n9_96s n9_99s n9_103s n9_106s n9_107s n9_105s n9_111s n9_113s n9_117s n9_120s n9_121s n9_119s n9_125s n9_128s n9_130s n9_131s n9_129s n9_127s n9_133s n9_135s n9_136s n9_134s n9_132s n9_126s n9_124s n9_123s n9_137s n9_122s n9_118s n9_116s n9_115s n9_115g n9_114s n9_112s n9_110s n9_109s n9_138s n9_108s n9_104s n9_102s n9_101s n9_101g n9_100s n9_98s n9_140s n9_141s n9_139s n9_97s n9_95s n9_87s n9_85s n9_83s n9_75s n9_73s n9_71s n9_10s n9_8s n9_6s n9_4s n9_2s n9_0s Try.f9
section
variable (K0 : Blk) {A : List (Int × Int)} {n : Nat} {M : List (List Nat)} (H : OkM A) (hA : A.length = n) (n5 : n ≤ 5) (hM : M = ords (nxB (spAt A) n) n n 0) (hk : M.length ≤ 5000) (h1 : 1 ≤ n) (hN : 0 < M.length)
include H hA n5 hM hk h1 hN
theorem l9a (a b : Nat) : ∀ (q i : Nat), i + q = n →
    lpB Try.prog LL ⟨9, 242, 1, none⟩ n9_14 n9_15 ⟨[(5, sl 1 0 n n), (7, iv M.length), (8, iv a), (9, iv b), (47, iv n), (48, iv i), (6, sl 2 0 M.length M.length)], K0 :: spB A :: lsB 3 M :: M.map nB, []⟩ =
      some (.exit 0, ⟨[(5, sl 1 0 n n), (7, iv M.length), (8, iv a), (9, iv b), (6, sl 2 0 M.length M.length)], K0 :: spB A :: lsB 3 M :: M.map nB, []⟩) := by
  have s1 := fun i : Int => sw9d K0 (A := A.flatMap spG) hk [(5, sl 1 0 n n), (7, iv M.length), (8, iv a), (9, iv b), (47, iv n), (48, iv i), (6, sl 2 0 M.length M.length)] rfl (fun f h1 h2 => by simp [renT, renV_sl, renV_int, dep, h1, h2])
  have s2 := sw9d K0 (A := A.flatMap spG) hk [(5, sl 1 0 n n), (7, iv M.length), (8, iv a), (9, iv b), (6, sl 2 0 M.length M.length)] rfl (fun f h1 h2 => by simp [renT, renV_sl, renV_int, dep, h1, h2])
  have s3 := fun i : Int => sw9d K0 (A := A.flatMap spG) hk [(10, iv i), (11, iv 1), (5, sl 1 0 n n), (7, iv M.length), (8, iv a), (9, iv b), (47, iv n), (48, iv i), (6, sl 2 0 M.length M.length)] rfl (fun f h1 h2 => by simp [renT, renV_sl, renV_int, dep, h1, h2])
  intro q
  induction q with
  | zero =>
    intro i hi
    obtain rfl : i = n := by omega
    simp only [spB, lsB, nB] at s1 s2 s3 ⊢
    generalize M.map (fun L => Blk.cells (nm L) 1 true true) = Q at *
    generalize slS 3 M = X at *
    generalize A.flatMap spG = N at *
    rw [lpB_eq]
    simp (maxSteps := 1000000) (disch := first | omega | decide | assumption | simp [scal]) [lenA_sl lk_49, o_indexAddrA ea_60, loadA_eq ia_5, o_convI cv_5_3, lenA_sl lk_22, za_42, sz_42, o_indexAddrS es_49, loadA_eq ia_24, o_indexAddrS es_24, loadA_eq ia_3, o_fieldAddr fa_42_1 (by decide), o_fieldAddr fa_42_0 (by decide), loadA_eq ia_42, lenA_sl lk_24, want_some q9_63g2, want_some q9_63g7, want_some q9_63g13, want_some q9_63g18, want_some q9_63g29, want_some q9_77g2, want_some q9_77g6, want_some q9_77g10, want_some q9_92g2, want_some q9_92g6, want_some q9_133g3, want_some q9_140g2, want_some q9_140g6, want_some q9_140g11, want_some q9_140g17, want_some q9_140g28, want_some q9_140g35, want_some q9_140g45, -sweep_eq, s1, s2]
  | succ q ih =>
    intro i hi
    have e0 : i < n := by omega
    have e1 : (i : Int) < n := by omega
    have this := ih (i + 1) (by omega)
    have lb := l9b K0 H hA n5 hM hk h1 hN i a b e0 n 1 (by omega) (by omega)
    simp only [cast1] at this
    rw [show ((1 : Nat) : Int) = 1 from rfl] at lb
    clear ih
    simp only [spB, lsB, nB] at s1 s2 s3 lb this ⊢
    generalize M.map (fun L => Blk.cells (nm L) 1 true true) = Q at *
    generalize slS 3 M = X at *
    generalize A.flatMap spG = N at *
    rw [lpB_eq]
    simp (maxSteps := 1000000) (disch := first | omega | decide | assumption | simp [scal]) [lenA_sl lk_49, o_indexAddrA ea_60, loadA_eq ia_5, o_convI cv_5_3, lenA_sl lk_22, za_42, sz_42, o_indexAddrS es_49, loadA_eq ia_24, o_indexAddrS es_24, loadA_eq ia_3, o_fieldAddr fa_42_1 (by decide), o_fieldAddr fa_42_0 (by decide), loadA_eq ia_42, lenA_sl lk_24, want_some q9_63g2, want_some q9_63g7, want_some q9_63g13, want_some q9_63g18, want_some q9_63g29, want_some q9_77g2, want_some q9_77g6, want_some q9_77g10, want_some q9_92g2, want_some q9_92g6, want_some q9_133g3, want_some q9_140g2, want_some q9_140g6, want_some q9_140g11, want_some q9_140g17, want_some q9_140g28, want_some q9_140g35, want_some q9_140g45, -sweep_eq, e0, e1, lb, s1, s2, s3, this]
end
end Go.Proofs.Ytfccmddkblbeoaa.rk
namespace Go.Proofs.Ytfccmddkblbeoaa.rk
open Go.GE
set_option linter.unusedVariables false
set_option linter.unusedSimpArgs false
set_option linter.unusedSectionVars false
set_option maxRecDepth 100000
set_option maxHeartbeats 4000000
attribute [local simp] runOps_nil runOps_cons runOpsF_nil runOpsF_cons fstS_some fstF_some opStep_eq want_none oStep_true oStep_false fin_pure fin_read fin_alloc fin_write storeB wrN cellV addWr o_move o_assign o_pick o_alloc o_box o_load o_store o_nilCheck o_bin o_un o_extract o_callV o_callB o_callI callV_f callV_y callV_fc o_makeFunc partsA Instr.fill builtin_len builtin_max2 bin_add bin_sub bin_mul bin_quo bin_rem bin_lss bin_leq bin_gtr bin_geq bin_eql bin_neq un_neg un_not bin_shr bin_shl wrap_u64_id opd opds optAll putO nbeq nblt constOk isC ops sub cl cr co bodyOf thenS_normal thenS_ret thenS_exit thenS_goto afterN_normal afterN_ret afterN_exit afterN_goto condS_true condS_false blockS_normal blockS_ret blockS_exit blockS_goto headS normS normK_eq fixS_nil fixS_cons fix1 fixV emptyB keepO_nil keepO_cons roundC_normal roundC_exit roundC_ret roundC_goto sweep_eq sweepD rnm pickR pickW rootsB ptrT renT ptrFn renFn ptrB_flat ptrB_non renB_flat renB_non plainS_some drawS_some fpsOk disj unord range' dropTo enumT undef wrap_i64_id Value.cells mkCells ptrTo scal cellsAt rdN endS_ret resultsA Option.bind_some tupV finish reachN dep ptrL_eq ptrL renL_eq renL ptrV_bool ptrV_int ptrV_string ptrV_nilFunc ptrV_nilIface ptrV_nilPtr ptrV_ptr ptrV_nilSl ptrV_sl ptrV_iface ptrV_agg ptrV_tuple ptrV_func renV_bool renV_int renV_string renV_nilFunc renV_nilIface renV_nilPtr renV_ptr renV_nilSl renV_sl renV_iface renV_agg renV_tuple renV_func gotoS_goto gotoS_normal gotoS_exit gotoS_ret skip_seq sliceE bnd bndHi intOf optOpd keepT_nil keepT_cons keepC_t keepC_f lk_nil lk_cons lkC_t lkC_f has_nil has_cons hasC_t hasC_f rep_nil rep_cons repC_t repC_f put_eq putC_t putC_f mem_nil mem_cons memC_t memC_f idx_nil idx_cons idxC_t idxC_f reach_nil reachP_cons reachQ_t reachQ_f ptrB_dead renB_dead ins_eq
attribute [local simp] n9_1s n9_3s n9_5s n9_7s n9_9s n9_12s n9_16s n9_19s n9_20s n9_18s n9_24s n9_26s n9_31s n9_33s n9_34s n9_32s n9_30s n9_38s n9_40s n9_43s n9_47s n9_50s n9_51s n9_49s n9_55s n9_57s n9_59s n9_60s n9_58s n9_56s n9_54s n9_53s n9_61s n9_52s n9_48s n9_46s n9_45s n9_45g n9_44s n9_42s n9_63s n9_66s n9_67s n9_65s n9_68s n9_64s n9_62s n9_41s n9_39s n9_37s n9_36s n9_69s n9_35s n9_29s n9_28s n9_28g n9_27s n9_25s n9_23s n9_22s n9_70s n9_21s n9_17s n9_15s n9_14s n9_14g n9_13s n9_11s n9_72s n9_74s n9_77s n9_80s n9_81s n9_79s n9_82s n9_78s n9_76s n9_84s n9_86s n9_89s n9_92s n9_93s n9_91s n9_94s n9_90s n9_88s n9_96s n9_99s n9_103s n9_106s n9_107s n9_105s n9_111s n9_113s n9_117s n9_120s n9_121s n9_119s n9_125s n9_128s n9_130s n9_131s n9_129s n9_127s n9_133s n9_135s n9_136s n9_134s n9_132s n9_126s n9_124s n9_123s n9_137s n9_122s n9_118s n9_116s n9_115s n9_115g n9_114s n9_112s n9_110s n9_109s n9_138s n9_108s n9_104s n9_102s n9_101s n9_101g n9_100s n9_98s n9_140s n9_141s n9_139s n9_97s n9_95s n9_87s n9_85s n9_83s n9_75s n9_73s n9_71s n9_10s n9_8s n9_6s n9_4s n9_2s n9_0s Try.f9
section
variable (K0 : Blk) {M : List (List Nat)} (hk : M.length ≤ 5000) {n : Nat} (n5 : n ≤ 5)
include hk n5
theorem l9e (x y x' y' a b t : Nat) {O : List Nat} (hMt : M[t]? = some O) (hO : O.length = n) (c : Nat) (hc : c ≤ 5000) : ∀ (q j : Nat), j + q = n →
    lpB Try.prog LL ⟨9, 242, 1, none⟩ n9_115 n9_116 ⟨[(174, iv n), (175, iv j), (7, iv M.length), (8, iv a), (9, iv b), (18, iv 0), (20, iv 0), (21, pp 1), (22, pp 2), (23, iv c), (168, iv M.length), (169, iv t), (167, sl 3 0 M.length M.length), (173, sl (4 + t) 0 n n)], K0 :: cBx x y :: cBx x' y' :: lsB 4 M :: M.map nB, []⟩ =
      some (.exit 8, ⟨[(7, iv M.length), (8, iv a), (9, iv b), (18, iv 0), (20, iv 0), (21, pp 1), (22, pp 2), (23, iv (c + fstAB a b (O.drop j) : Nat)), (168, iv M.length), (169, iv t), (167, sl 3 0 M.length M.length)], K0 :: cBx x y :: cBx x' y' :: lsB 4 M :: M.map nB, []⟩) := by
  have ht := (List.getElem?_eq_some_iff.1 hMt).1
  have s1 : ∀ (j : Int), sweep 1 ⟨[(174, iv n), (175, iv j), (7, iv M.length), (8, iv a), (9, iv b), (18, iv 0), (20, iv 0), (21, pp 1), (22, pp 2), (23, iv c), (168, iv M.length), (169, iv t), (167, sl 3 0 M.length M.length), (173, sl (4 + t) 0 n n)], K0 :: cBx x y :: cBx x' y' :: lsB 4 M :: (M.map nB ++ []), []⟩ = _ := fun j =>
    sw9 K0 (B1 := cBx x y) (B2 := cBx x' y') noIdB_flat noIdB_flat hk _ [4 + t] rfl (by simp) (by intro z hz; simp at hz; omega) (fun f h1 h2 h3 h4 => by have := h4 t ht; simp [renT, renV_sl, renV_int, renV_ptr, dep, h1, h2, h3, this])
  have s2 : ∀ (c : Int), sweep 1 ⟨[(7, iv M.length), (8, iv a), (9, iv b), (18, iv 0), (20, iv 0), (21, pp 1), (22, pp 2), (23, iv c), (168, iv M.length), (169, iv t), (167, sl 3 0 M.length M.length)], K0 :: cBx x y :: cBx x' y' :: lsB 4 M :: (M.map nB ++ []), []⟩ = _ := fun c =>
    sw9 K0 (B1 := cBx x y) (B2 := cBx x' y') noIdB_flat noIdB_flat hk _ [] rfl (by simp) (by simp) (fun f h1 h2 h3 _ => by simp [renT, renV_sl, renV_int, renV_ptr, dep, h1, h2, h3])
  simp only [List.append_nil] at s1 s2
  have g1 := map_at hMt
  have g4 : ∀ (z1 z2 z3 z4 : Blk), (z1 :: z2 :: z3 :: z4 :: M.map nB)[4 + t]? = some (nB O) := fun z1 z2 z3 z4 => by
    rw [show 4 + t = t + 1 + 1 + 1 + 1 by omega]; exact g1
  simp only [cBx, lsB, nB] at s1 s2 g4 ⊢
  generalize M.map (fun L => Blk.cells (nm L) 1 true true) = Q at *
  generalize slS 4 M = X at *
  generalize M.length = N at *
  generalize 4 + t = ti at *
  intro q
  induction q with
  | zero =>
    intro j hj
    obtain rfl : j = n := by omega
    rw [← hO, List.drop_length]
    simp only [fstAB, Nat.add_zero]
    rw [hO, lpB_eq]
    simp (maxSteps := 1000000) (disch := first | omega | decide | assumption | simp [scal]) [lenA_sl lk_49, o_indexAddrA ea_60, loadA_eq ia_5, o_convI cv_5_3, lenA_sl lk_22, za_42, sz_42, o_indexAddrS es_49, loadA_eq ia_24, o_indexAddrS es_24, loadA_eq ia_3, o_fieldAddr fa_42_1 (by decide), o_fieldAddr fa_42_0 (by decide), loadA_eq ia_42, lenA_sl lk_24, want_some q9_63g2, want_some q9_63g7, want_some q9_63g13, want_some q9_63g18, want_some q9_63g29, want_some q9_77g2, want_some q9_77g6, want_some q9_77g10, want_some q9_92g2, want_some q9_92g6, want_some q9_133g3, want_some q9_140g2, want_some q9_140g6, want_some q9_140g11, want_some q9_140g17, want_some q9_140g28, want_some q9_140g35, want_some q9_140g45, -sweep_eq, s1, s2]
  | succ q ih =>
    intro j hj
    have e0 : j < n := by omega
    have e1 : (j : Int) < n := by omega
    have this := ih (j + 1) (by omega)
    obtain ⟨d, hd⟩ : ∃ d, O[j]? = some d := ⟨O[j], List.getElem?_eq_getElem (by omega)⟩
    have g3 : (nm O)[j]? = some (iv d) := by simp [nm, hd]
    have hdr : O.drop j = d :: O.drop (j + 1) := by
      rw [List.drop_eq_getElem_cons (show j < O.length by omega)]
      congr 1
      rw [List.getElem?_eq_getElem (by omega)] at hd
      exact Option.some.inj hd
    rw [hdr]
    simp only [cast1] at this
    clear ih
    unfold fstAB
    by_cases h1 : d = a
    · have h1' : (d : Int) = a := by omega
      rw [if_pos h1]
      simp only [cast1]
      rw [lpB_eq]
      simp (maxSteps := 1000000) (disch := first | omega | decide | assumption | simp [scal]) [lenA_sl lk_49, o_indexAddrA ea_60, loadA_eq ia_5, o_convI cv_5_3, lenA_sl lk_22, za_42, sz_42, o_indexAddrS es_49, loadA_eq ia_24, o_indexAddrS es_24, loadA_eq ia_3, o_fieldAddr fa_42_1 (by decide), o_fieldAddr fa_42_0 (by decide), loadA_eq ia_42, lenA_sl lk_24, want_some q9_63g2, want_some q9_63g7, want_some q9_63g13, want_some q9_63g18, want_some q9_63g29, want_some q9_77g2, want_some q9_77g6, want_some q9_77g10, want_some q9_92g2, want_some q9_92g6, want_some q9_133g3, want_some q9_140g2, want_some q9_140g6, want_some q9_140g11, want_some q9_140g17, want_some q9_140g28, want_some q9_140g35, want_some q9_140g45, -sweep_eq, e0, e1, g3, g4, s1, s2, h1, h1']
    · have h1' : ¬ (d : Int) = a := by omega
      rw [if_neg h1]
      by_cases h2 : d = b
      · subst h2
        rw [if_pos rfl]
        simp only [Nat.add_zero]
        rw [lpB_eq]
        simp (maxSteps := 1000000) (disch := first | omega | decide | assumption | simp [scal]) [lenA_sl lk_49, o_indexAddrA ea_60, loadA_eq ia_5, o_convI cv_5_3, lenA_sl lk_22, za_42, sz_42, o_indexAddrS es_49, loadA_eq ia_24, o_indexAddrS es_24, loadA_eq ia_3, o_fieldAddr fa_42_1 (by decide), o_fieldAddr fa_42_0 (by decide), loadA_eq ia_42, lenA_sl lk_24, want_some q9_63g2, want_some q9_63g7, want_some q9_63g13, want_some q9_63g18, want_some q9_63g29, want_some q9_77g2, want_some q9_77g6, want_some q9_77g10, want_some q9_92g2, want_some q9_92g6, want_some q9_133g3, want_some q9_140g2, want_some q9_140g6, want_some q9_140g11, want_some q9_140g17, want_some q9_140g28, want_some q9_140g35, want_some q9_140g45, -sweep_eq, e0, e1, g3, g4, s1, s2, h1']
      · have h2' : ¬ (d : Int) = b := by omega
        rw [if_neg h2]
        generalize c + fstAB a b (O.drop (j + 1)) = Z at *
        rw [lpB_eq]
        simp (maxSteps := 1000000) (disch := first | omega | decide | assumption | simp [scal]) [lenA_sl lk_49, o_indexAddrA ea_60, loadA_eq ia_5, o_convI cv_5_3, lenA_sl lk_22, za_42, sz_42, o_indexAddrS es_49, loadA_eq ia_24, o_indexAddrS es_24, loadA_eq ia_3, o_fieldAddr fa_42_1 (by decide), o_fieldAddr fa_42_0 (by decide), loadA_eq ia_42, lenA_sl lk_24, want_some q9_63g2, want_some q9_63g7, want_some q9_63g13, want_some q9_63g18, want_some q9_63g29, want_some q9_77g2, want_some q9_77g6, want_some q9_77g10, want_some q9_92g2, want_some q9_92g6, want_some q9_133g3, want_some q9_140g2, want_some q9_140g6, want_some q9_140g11, want_some q9_140g17, want_some q9_140g28, want_some q9_140g35, want_some q9_140g45, -sweep_eq, e0, e1, g3, g4, s1, s2, h1', h2', this]
end
end Go.Proofs.Ytfccmddkblbeoaa.rk
namespace Go.Proofs.Ytfccmddkblbeoaa.rk
open Go.GE
set_option linter.unusedVariables false
set_option linter.unusedSimpArgs false
set_option linter.unusedSectionVars false
set_option maxRecDepth 100000
set_option maxHeartbeats 4000000
attribute [local simp] runOps_nil runOps_cons runOpsF_nil runOpsF_cons fstS_some fstF_some opStep_eq want_none oStep_true oStep_false fin_pure fin_read fin_alloc fin_write storeB wrN cellV addWr o_move o_assign o_pick o_alloc o_box o_load o_store o_nilCheck o_bin o_un o_extract o_callV o_callB o_callI callV_f callV_y callV_fc o_makeFunc partsA Instr.fill builtin_len builtin_max2 bin_add bin_sub bin_mul bin_quo bin_rem bin_lss bin_leq bin_gtr bin_geq bin_eql bin_neq un_neg un_not bin_shr bin_shl wrap_u64_id opd opds optAll putO nbeq nblt constOk isC ops sub cl cr co bodyOf thenS_normal thenS_ret thenS_exit thenS_goto afterN_normal afterN_ret afterN_exit afterN_goto condS_true condS_false blockS_normal blockS_ret blockS_exit blockS_goto headS normS normK_eq fixS_nil fixS_cons fix1 fixV emptyB keepO_nil keepO_cons roundC_normal roundC_exit roundC_ret roundC_goto sweep_eq sweepD rnm pickR pickW rootsB ptrT renT ptrFn renFn ptrB_flat ptrB_non renB_flat renB_non plainS_some drawS_some fpsOk disj unord range' dropTo enumT undef wrap_i64_id Value.cells mkCells ptrTo scal cellsAt rdN endS_ret resultsA Option.bind_some tupV finish reachN dep ptrL_eq ptrL renL_eq renL ptrV_bool ptrV_int ptrV_string ptrV_nilFunc ptrV_nilIface ptrV_nilPtr ptrV_ptr ptrV_nilSl ptrV_sl ptrV_iface ptrV_agg ptrV_tuple ptrV_func renV_bool renV_int renV_string renV_nilFunc renV_nilIface renV_nilPtr renV_ptr renV_nilSl renV_sl renV_iface renV_agg renV_tuple renV_func gotoS_goto gotoS_normal gotoS_exit gotoS_ret skip_seq sliceE bnd bndHi intOf optOpd keepT_nil keepT_cons keepC_t keepC_f lk_nil lk_cons lkC_t lkC_f has_nil has_cons hasC_t hasC_f rep_nil rep_cons repC_t repC_f put_eq putC_t putC_f mem_nil mem_cons memC_t memC_f idx_nil idx_cons idxC_t idxC_f reach_nil reachP_cons reachQ_t reachQ_f ptrB_dead renB_dead ins_eq
attribute [local simp] n9_1s n9_3s n9_5s n9_7s n9_9s n9_12s n9_16s n9_19s n9_20s n9_18s n9_24s n9_26s n9_31s n9_33s n9_34s n9_32s n9_30s n9_38s n9_40s n9_43s n9_47s n9_50s n9_51s n9_49s n9_55s n9_57s n9_59s n9_60s n9_58s n9_56s n9_54s n9_53s n9_61s n9_52s n9_48s n9_46s n9_45s n9_45g n9_44s n9_42s n9_63s n9_66s n9_67s n9_65s n9_68s n9_64s n9_62s n9_41s n9_39s n9_37s n9_36s n9_69s n9_35s n9_29s n9_28s n9_28g n9_27s n9_25s n9_23s n9_22s n9_70s n9_21s n9_17s n9_15s n9_14s n9_14g n9_13s n9_11s n9_72s n9_74s n9_77s n9_80s n9_81s n9_79s n9_82s n9_78s n9_76s n9_84s n9_86s n9_89s n9_92s n9_93s n9_91s n9_94s n9_90s n9_88s n9_96s n9_99s n9_103s n9_106s n9_107s n9_105s n9_111s n9_113s n9_117s n9_120s n9_121s n9_119s n9_125s n9_128s n9_130s n9_131s n9_129s n9_127s n9_133s n9_135s n9_136s n9_134s n9_132s n9_126s n9_124s n9_123s n9_137s n9_122s n9_118s n9_116s n9_115s n9_115g n9_114s n9_112s n9_110s n9_109s n9_138s n9_108s n9_104s n9_102s n9_101s n9_101g n9_100s n9_98s n9_140s n9_141s n9_139s n9_97s n9_95s n9_87s n9_85s n9_83s n9_75s n9_73s n9_71s n9_10s n9_8s n9_6s n9_4s n9_2s n9_0s Try.f9
theorem sweep_two {K0 : Blk} {x y x' y' : Nat} {R : List Blk} {σ σ' : Tm} (hp : ptrT σ = [1, 2]) (hσ : ∀ f : Nat → Option Nat, f 1 = some 1 → f 2 = some 2 → renT f σ = some σ') : sweep 1 ⟨σ, K0 :: cBx x y :: cBx x' y' :: R, []⟩ = some ⟨σ', [K0, cBx x y, cBx x' y'], []⟩ := by
  have hr : reach (K0 :: cBx x y :: cBx x' y' :: R) 1 reachN (ptrT σ) [] = [1, 2] := by
    rw [hp, show reachN = 99998 + 1 + 1 from rfl, reach_new (by omega) (by simp) rfl, ptrB_flat, List.nil_append, reach_new (by omega) (by simp) rfl, ptrB_flat, List.nil_append, reach_nil]; rfl
  rw [sweep_to hr (hσ _ rfl rfl) rfl]
  rfl
section
variable (K0 : Blk) {M : List (List Nat)} (hk : M.length ≤ 5000) {n : Nat} (n5 : n ≤ 5) (hO : ∀ O, O ∈ M → O.length = n)
include hk n5 hO
theorem l9f (x y x' y' a b : Nat) : ∀ (q t c : Nat), t + q = M.length → c ≤ t →
    lpB Try.prog LL ⟨9, 242, 1, none⟩ n9_101 n9_102 ⟨[(7, iv M.length), (8, iv a), (9, iv b), (18, iv 0), (20, iv 0), (21, pp 1), (22, pp 2), (23, iv c), (168, iv M.length), (169, iv t), (167, sl 3 0 M.length M.length)], K0 :: cBx x y :: cBx x' y' :: lsB 4 M :: M.map nB, []⟩ =
      some (.exit 6, ⟨[(7, iv M.length), (18, iv 0), (20, iv 0), (21, pp 1), (22, pp 2), (23, iv (c + sumF a b (M.drop t) : Nat))], [K0, cBx x y, cBx x' y'], []⟩) := by
  have s0 : ∀ (c : Int) R, sweep 1 ⟨[(7, iv M.length), (18, iv 0), (20, iv 0), (21, pp 1), (22, pp 2), (23, iv c)], K0 :: cBx x y :: cBx x' y' :: R, []⟩ = some ⟨[(7, iv M.length), (18, iv 0), (20, iv 0), (21, pp 1), (22, pp 2), (23, iv c)], [K0, cBx x y, cBx x' y'], []⟩ := fun c R => sweep_two rfl (fun f h1 h2 => by simp [renT, renV_int, renV_ptr, dep, h1, h2])
  have s2 : ∀ (c t : Int), sweep 1 ⟨[(7, iv M.length), (8, iv a), (9, iv b), (18, iv 0), (20, iv 0), (21, pp 1), (22, pp 2), (23, iv c), (168, iv M.length), (169, iv t), (167, sl 3 0 M.length M.length)], K0 :: cBx x y :: cBx x' y' :: lsB 4 M :: (M.map nB ++ []), []⟩ = _ := fun c t =>
    sw9 K0 (B1 := cBx x y) (B2 := cBx x' y') noIdB_flat noIdB_flat hk _ [] rfl (by simp) (by simp) (fun f h1 h2 h3 _ => by simp [renT, renV_sl, renV_int, renV_ptr, dep, h1, h2, h3])
  simp only [List.append_nil] at s2
  intro q
  induction q with
  | zero =>
    intro t c ht hc
    obtain rfl : t = M.length := by omega
    rw [List.drop_length]
    simp only [sumF, List.map_nil, List.sum_nil, Nat.add_zero]
    simp only [cBx, lsB, nB] at s0 s2 ⊢
    generalize M.map (fun L => Blk.cells (nm L) 1 true true) = Q at *
    generalize slS 4 M = X at *
    rw [lpB_eq]
    simp (maxSteps := 1000000) (disch := first | omega | decide | assumption | simp [scal]) [lenA_sl lk_49, o_indexAddrA ea_60, loadA_eq ia_5, o_convI cv_5_3, lenA_sl lk_22, za_42, sz_42, o_indexAddrS es_49, loadA_eq ia_24, o_indexAddrS es_24, loadA_eq ia_3, o_fieldAddr fa_42_1 (by decide), o_fieldAddr fa_42_0 (by decide), loadA_eq ia_42, lenA_sl lk_24, want_some q9_63g2, want_some q9_63g7, want_some q9_63g13, want_some q9_63g18, want_some q9_63g29, want_some q9_77g2, want_some q9_77g6, want_some q9_77g10, want_some q9_92g2, want_some q9_92g6, want_some q9_133g3, want_some q9_140g2, want_some q9_140g6, want_some q9_140g11, want_some q9_140g17, want_some q9_140g28, want_some q9_140g35, want_some q9_140g45, -sweep_eq, s0, s2]
  | succ q ih =>
    intro t c ht hc
    have e0 : t < M.length := by omega
    have e1 : (t : Int) < M.length := by omega
    obtain ⟨O, hMt⟩ : ∃ O, M[t]? = some O := ⟨M[t], List.getElem?_eq_getElem e0⟩
    have hOn := hO O (List.mem_of_getElem? hMt)
    have le := l9e K0 hk n5 x y x' y' a b t hMt hOn c (by omega) n 0 (by omega)
    rw [List.drop_zero] at le
    have p1 := slS_get M 4 t O hMt
    rw [hOn] at p1
    have hle := fst_le (a := a) (b := b) O
    have this := ih (t + 1) (c + fstAB a b O) (by omega) (by omega)
    have hdr : M.drop t = O :: M.drop (t + 1) := by
      rw [List.drop_eq_getElem_cons e0]
      congr 1
      rw [List.getElem?_eq_getElem e0] at hMt
      exact Option.some.inj hMt
    have hsum : c + sumF a b (M.drop t) = c + fstAB a b O + sumF a b (M.drop (t + 1)) := by rw [hdr]; simp only [sumF, List.map_cons, List.sum_cons]; omega
    rw [hsum]
    have s1 : sweep 1 ⟨[(174, iv n), (175, iv 0), (7, iv M.length), (8, iv a), (9, iv b), (18, iv 0), (20, iv 0), (21, pp 1), (22, pp 2), (23, iv c), (168, iv M.length), (169, iv t), (167, sl 3 0 M.length M.length), (173, sl (4 + t) 0 n n)], K0 :: cBx x y :: cBx x' y' :: lsB 4 M :: (M.map nB ++ []), []⟩ = _ :=
      sw9 K0 (B1 := cBx x y) (B2 := cBx x' y') noIdB_flat noIdB_flat hk _ [4 + t] rfl (by simp) (by intro z hz; simp at hz; omega) (fun f h1 h2 h3 h4 => by have := h4 t e0; simp [renT, renV_sl, renV_int, renV_ptr, dep, h1, h2, h3, this])
    simp only [List.append_nil] at s1
    generalize c + fstAB a b O + sumF a b (M.drop (t + 1)) = Z at *
    generalize c + fstAB a b O = c2 at *
    simp only [cast1] at this
    clear ih hdr hsum
    simp only [cBx, lsB, nB, Int.natCast_zero] at s0 s1 s2 le this ⊢
    generalize M.map (fun L => Blk.cells (nm L) 1 true true) = Q at *
    generalize slS 4 M = X at *
    generalize 4 + t = ti at *
    rw [lpB_eq]
    simp (maxSteps := 1000000) (disch := first | omega | decide | assumption | simp [scal]) [lenA_sl lk_49, o_indexAddrA ea_60, loadA_eq ia_5, o_convI cv_5_3, lenA_sl lk_22, za_42, sz_42, o_indexAddrS es_49, loadA_eq ia_24, o_indexAddrS es_24, loadA_eq ia_3, o_fieldAddr fa_42_1 (by decide), o_fieldAddr fa_42_0 (by decide), loadA_eq ia_42, lenA_sl lk_24, want_some q9_63g2, want_some q9_63g7, want_some q9_63g13, want_some q9_63g18, want_some q9_63g29, want_some q9_77g2, want_some q9_77g6, want_some q9_77g10, want_some q9_92g2, want_some q9_92g6, want_some q9_133g3, want_some q9_140g2, want_some q9_140g6, want_some q9_140g11, want_some q9_140g17, want_some q9_140g28, want_some q9_140g35, want_some q9_140g45, -sweep_eq, e0, e1, p1, le, s0, s1, s2, this]
end
end Go.Proofs.Ytfccmddkblbeoaa.rk
namespace Go.Proofs.Ytfccmddkblbeoaa.rk
open Go.GE
set_option linter.unusedVariables false
set_option linter.unusedSimpArgs false
set_option linter.unusedSectionVars false
set_option maxRecDepth 100000
set_option maxHeartbeats 4000000
theorem cS_pos {f : Nat → Nat} : ∀ k i, 0 < cS f k i 0 → ∃ j, i ≤ j ∧ j < i + k ∧ 0 < f j := by
  intro k
  induction k with
  | zero => intro i h; simp [cS] at h
  | succ k ih =>
    intro i h
    rw [cS_one] at h
    by_cases h0 : 0 < f i
    · exact ⟨i, by omega, by omega, h0⟩
    · obtain ⟨j, a, b, c⟩ := ih (i + 1) (by omega)
      exact ⟨j, by omega, by omega, c⟩
theorem cS_ge {f : Nat → Nat} {d : Nat} : ∀ k i, i ≤ d → d < i + k → f d ≤ cS f k i 0 := by
  intro k
  induction k with
  | zero => intro i _ _; omega
  | succ k ih =>
    intro i h1 h2
    rw [cS_one]
    by_cases e : i = d
    · subst e; omega
    · have := ih (i + 1) (by omega) (by omega); omega
theorem gr_len {nx : Nat → Nat → Bool} {n : Nat} {K : Int} : ∀ q s, (grL nx n K q s).length = cS (fun x => if inG nx n K x = true then 1 else 0) q s 0 := by
  intro q
  induction q with
  | zero => intro s; rfl
  | succ q ih =>
    intro s
    rw [cS_one]
    unfold grL
    by_cases h : inG nx n K s = true
    · simp only [h, if_true, List.length_cons, ih]; omega
    · simp only [h, if_false, ih, Bool.false_eq_true]; omega
def chkF : Bool := allN (fun n => allN (fun s => decide (2 ^ n ≤ s) || decide (sizeN s ≠ n) || decide (s + 1 = 2 ^ n)) 32) 6
theorem chkF_ok : chkF = true := by kernel_rfl
theorem size_full {n s : Nat} (hn : n ≤ 5) (hs : s < 2 ^ n) (h : sizeN s = n) : s + 1 = 2 ^ n := by
  have h1 := allN_spec 6 chkF_ok n (by omega)
  have h32 : 2 ^ n ≤ 2 ^ 5 := Nat.pow_le_pow_right (by decide) hn
  have h2 := allN_spec 32 h1 s (by omega)
  simp only [Bool.or_eq_true, decide_eq_true_eq] at h2
  omega
theorem adn_same {s d : Nat} (hd : d < 32) (hs : s ||| 2 ^ d < 2 ^ 32) (h : s.testBit d = false) : adn (s ||| 2 ^ d) d = s := by
  refine Nat.eq_of_testBit_eq fun i => ?_
  rw [adn_bit hd hs, bit_or]
  by_cases e : d = i
  · subst e; simp [h]
  · simp [e]
section
variable {A : List (Int × Int)} {n : Nat} {M : List (List Nat)} (H : OkM A) (hA : A.length = n) (n5 : n ≤ 5) (hM : M = ords (nxB (spAt A) n) n n 0) (h1 : 1 ≤ n) (hN : 0 < M.length)
include H hA n5 h1
theorem grV_none : grV (spAt A) n 0 = 1 := by
  have hc := cnt_ok H hA n5
  unfold grV
  have e : grE (spAt A) n 0 = 0 := by
    unfold grE
    rw [if_pos hc.1, if_pos (by simp)]
  have hp : 0 < 2 ^ n := Nat.two_pow_pos n
  have s0 : sizeN 0 = 0 := by have := size_cnt n5 hp; rw [cntU_zero] at this; omega
  have g0 : gB (nxB (spAt A) n) n 0 = 1 := by unfold gB; rw [cntU_zero, Nat.sub_self]; rfl
  rw [if_pos e, gr_len, cS_only (d := 0) (2 ^ n) 0 (by omega) (by omega) fun t _ hlt ht => ?_]
  · unfold inG; simp [s0, g0]
  · have : inG (nxB (spAt A) n) n 0 t = false := by
      unfold inG
      have hs := size_cnt n5 (s := t) (by omega)
      have : ¬ sizeN t = 0 := fun hz => ht (none_bits (n := n) (by omega) (by omega))
      simp; omega
    rw [this]; rfl
include hM hN
theorem gB_full : ∃ t, t < 2 ^ n ∧ sizeN t = n ∧ 0 < gB (nxB (spAt A) n) n t := by
  obtain ⟨O, hO⟩ : ∃ O, O ∈ M := ⟨M[0], List.getElem_mem hN⟩
  have hOO := hO
  rw [hM] at hOO
  obtain ⟨f1, f2, f3, _⟩ := (full_iff (quiet_self H hA)).1 hOO
  have hlen : O.length = n := by assumption
  obtain ⟨d, hd⟩ : ∃ d, O[n - 1]? = some d := ⟨O[n - 1], List.getElem?_eq_getElem (by omega)⟩
  have hdn : d < n := by
    have hm := List.mem_of_getElem? hd
    first | exact f2 d hm | exact f3 d hm | exact f1 d hm
  have hpos : 0 < cAt (nxB (spAt A) n) n n 0 (n - 1) d := by
    unfold cAt
    rw [← hM]
    refine List.length_pos_of_mem (a := O) (List.mem_filter.2 ⟨hO, ?_⟩)
    simp [eqAt, hd]
  rw [← tS_all (fun M i h => nxB_bit h) n5 hdn (K := n - 1) (by omega) (n - 1) (Nat.le_refl _)] at hpos
  unfold tS at hpos
  obtain ⟨s, _, hs, hp⟩ := cS_pos _ _ hpos
  have hs' : s < 2 ^ n := by omega
  by_cases hz : sizeN s = n - 1
  · simp only [hz, decide_true, cond_true] at hp
    rw [show n - (n - 1) = 0 + 1 by omega, Nat.sub_self, cAt_zero hdn] at hp
    cases hx : nxB (spAt A) n s d
    · rw [hx] at hp; simp at hp
    · rw [hx] at hp
      have hg : 0 < gB (nxB (spAt A) n) n s := Nat.pos_of_mul_pos_right hp
      have hb := nxB_bit hx
      have h32 : 2 ^ n ≤ 2 ^ 5 := Nat.pow_le_pow_right (by decide) n5
      have ht : s ||| 2 ^ d < 2 ^ n := Nat.or_lt_two_pow hs' (Nat.pow_lt_pow_right (by decide) hdn)
      have ha := adn_same (show d < 32 by omega) (s := s) (by omega) hb
      have htb : (s ||| 2 ^ d).testBit d = true := by rw [bit_or]; simp
      have h0 : s ||| 2 ^ d ≠ 0 := fun h => by rw [h] at htb; simp at htb
      have hc := cntU_adn hdn (by omega) (show s ||| 2 ^ d < 2 ^ 32 by omega) htb
      rw [ha] at hc
      have z1 := size_cnt n5 hs'
      have z2 := size_cnt n5 ht
      refine ⟨_, ht, by omega, ?_⟩
      rw [gB_sum (by omega) ht h0]
      refine Nat.lt_of_lt_of_le ?_ (cS_ge (d := d) n 0 (by omega) (by omega))
      rw [htb, ha, hx]
      exact hg
  · simp [hz] at hp
theorem grV_all : grV (spAt A) n (n : Int) = 1 := by
  have hc := cnt_ok H hA n5
  unfold grV
  have e : grE (spAt A) n (n : Int) = 0 := by
    unfold grE
    rw [if_pos hc.1, if_pos (by simp)]
  obtain ⟨t, ht, hz, hg⟩ := gB_full H hA n5 hM h1 hN
  have hf := size_full n5 ht hz
  rw [if_pos e, gr_len, cS_only (d := t) (2 ^ n) 0 (by omega) (by omega) fun u _ hlt hu => ?_]
  · unfold inG; simp [hz, hg]
  · have : inG (nxB (spAt A) n) n (n : Int) u = false := by
      unfold inG
      have : ¬ sizeN u = n := fun hz' => hu (by have := size_full n5 (s := u) (by omega) hz'; omega)
      simp; omega
    rw [this]; rfl
end
end Go.Proofs.Ytfccmddkblbeoaa.rk
namespace Go.Proofs.Ytfccmddkblbeoaa.rk
open Go.GE
set_option linter.unusedVariables false
set_option linter.unusedSimpArgs false
set_option linter.unusedSectionVars false
set_option maxRecDepth 100000
set_option maxHeartbeats 4000000
attribute [local simp] runOps_nil runOps_cons runOpsF_nil runOpsF_cons fstS_some fstF_some opStep_eq want_none oStep_true oStep_false fin_pure fin_read fin_alloc fin_write storeB wrN cellV addWr o_move o_assign o_pick o_alloc o_box o_load o_store o_nilCheck o_bin o_un o_extract o_callV o_callB o_callI callV_f callV_y callV_fc o_makeFunc partsA Instr.fill builtin_len builtin_max2 bin_add bin_sub bin_mul bin_quo bin_rem bin_lss bin_leq bin_gtr bin_geq bin_eql bin_neq un_neg un_not bin_shr bin_shl wrap_u64_id opd opds optAll putO nbeq nblt constOk isC ops sub cl cr co bodyOf thenS_normal thenS_ret thenS_exit thenS_goto afterN_normal afterN_ret afterN_exit afterN_goto condS_true condS_false blockS_normal blockS_ret blockS_exit blockS_goto headS normS normK_eq fixS_nil fixS_cons fix1 fixV emptyB keepO_nil keepO_cons roundC_normal roundC_exit roundC_ret roundC_goto sweep_eq sweepD rnm pickR pickW rootsB ptrT renT ptrFn renFn ptrB_flat ptrB_non renB_flat renB_non plainS_some drawS_some fpsOk disj unord range' dropTo enumT undef wrap_i64_id Value.cells mkCells ptrTo scal cellsAt rdN endS_ret resultsA Option.bind_some tupV finish reachN dep ptrL_eq ptrL renL_eq renL ptrV_bool ptrV_int ptrV_string ptrV_nilFunc ptrV_nilIface ptrV_nilPtr ptrV_ptr ptrV_nilSl ptrV_sl ptrV_iface ptrV_agg ptrV_tuple ptrV_func renV_bool renV_int renV_string renV_nilFunc renV_nilIface renV_nilPtr renV_ptr renV_nilSl renV_sl renV_iface renV_agg renV_tuple renV_func gotoS_goto gotoS_normal gotoS_exit gotoS_ret skip_seq sliceE bnd bndHi intOf optOpd keepT_nil keepT_cons keepC_t keepC_f lk_nil lk_cons lkC_t lkC_f has_nil has_cons hasC_t hasC_f rep_nil rep_cons repC_t repC_f put_eq putC_t putC_f mem_nil mem_cons memC_t memC_f idx_nil idx_cons idxC_t idxC_f reach_nil reachP_cons reachQ_t reachQ_f ptrB_dead renB_dead ins_eq
attribute [local simp] n9_1s n9_3s n9_5s n9_7s n9_9s n9_12s n9_16s n9_19s n9_20s n9_18s n9_24s n9_26s n9_31s n9_33s n9_34s n9_32s n9_30s n9_38s n9_40s n9_43s n9_47s n9_50s n9_51s n9_49s n9_55s n9_57s n9_59s n9_60s n9_58s n9_56s n9_54s n9_53s n9_61s n9_52s n9_48s n9_46s n9_45s n9_45g n9_44s n9_42s n9_63s n9_66s n9_67s n9_65s n9_68s n9_64s n9_62s n9_41s n9_39s n9_37s n9_36s n9_69s n9_35s n9_29s n9_28s n9_28g n9_27s n9_25s n9_23s n9_22s n9_70s n9_21s n9_17s n9_15s n9_14s n9_14g n9_13s n9_11s n9_72s n9_74s n9_77s n9_80s n9_81s n9_79s n9_82s n9_78s n9_76s n9_84s n9_86s n9_89s n9_92s n9_93s n9_91s n9_94s n9_90s n9_88s n9_96s n9_99s n9_103s n9_106s n9_107s n9_105s n9_111s n9_113s n9_117s n9_120s n9_121s n9_119s n9_125s n9_128s n9_130s n9_131s n9_129s n9_127s n9_133s n9_135s n9_136s n9_134s n9_132s n9_126s n9_124s n9_123s n9_137s n9_122s n9_118s n9_116s n9_115s n9_115g n9_114s n9_112s n9_110s n9_109s n9_138s n9_108s n9_104s n9_102s n9_101s n9_101g n9_100s n9_98s n9_140s n9_141s n9_139s n9_97s n9_95s n9_87s n9_85s n9_83s n9_75s n9_73s n9_71s n9_10s n9_8s n9_6s n9_4s n9_2s n9_0s Try.f9
theorem sw_none {K0 : Blk} {R : List Blk} : sweep 1 ⟨[(4, .bool true)], K0 :: R, []⟩ = some ⟨[(4, .bool true)], [K0], []⟩ := sweep_to (δ := []) reach_nil rfl rfl
/-- two boxes behind the lists come to the front -/
theorem sw9g (K0 : Blk) {A : List Value} {M : List (List Nat)} (hk : M.length ≤ 5000) {B1 B2 : Blk} (hB1 : noIdB B1) (hB2 : noIdB B2) (σ σ' : Tm) (hp : ptrT σ = [M.length + 3, M.length + 4, 2]) (hσ : ∀ f : Nat → Option Nat, f (M.length + 3) = some 1 → f (M.length + 4) = some 2 → f 2 = some 3 → renT f σ = some σ') :
    sweep 1 ⟨σ, K0 :: .cells A 2 true true :: lsB 3 M :: (M.map nB ++ [B1, B2]), []⟩ = some ⟨σ', K0 :: B1 :: B2 :: lsB 4 M :: M.map nB, []⟩ := by
  refine sweep_pre (base := 1) (H := K0 :: .cells A 2 true true :: lsB 3 M :: (M.map nB ++ [B1, B2])) (M := M) (N := 2) (p := 3) [M.length + 3, M.length + 4] [B1, B2] [] ?_ ?_ (by simp) ?_ rfl ?_ (by omega) (by omega) (by omega) (by omega) (by simp) (by simp) hp (by simp) ?_
  · simp only [List.map_cons, List.map_nil, List.getElem?_cons_succ]
    rw [List.getElem?_append_right (by simp), List.getElem?_append_right (by simp)]
    simp
  · intro blk hb
    simp only [List.mem_cons, List.not_mem_nil, or_false] at hb
    rcases hb with rfl | rfl
    · exact hB1
    · exact hB2
  · intro b hb
    simp only [List.mem_cons, List.not_mem_nil, or_false] at hb
    omega
  · intro j O hj
    rw [show 3 + j = j + 1 + 1 + 1 by omega]
    simp only [List.getElem?_cons_succ]
    exact map_left hj
  · intro f h1 h2 h3
    exact hσ f (h1 0 _ rfl) (h1 1 _ rfl) h2
section
variable (K0 : Blk) {N x y x' s : Nat} (hN : N ≤ 5000) (hx : x ≤ 5000) (hs : s ≤ 5000) (h1 : 1 ≤ y) (h2 : y ≤ N) (h3 : x * N = s * y) (h4 : x' + x = y)
include hN hx hs h1 h2 h3 h4
theorem t139 : codeB Try.prog LL ⟨9, 242, 1, none⟩ n9_139 ⟨[(7, iv N), (18, iv 0), (20, iv 0), (21, pp 1), (22, pp 2), (23, iv s)], [K0, cBx x y, cBx x' y], []⟩ = some (.ret, ⟨[(4, .bool true)], [K0], []⟩) := by
  have b1 : x * N ≤ 5000 * 5000 := Nat.mul_le_mul hx hN
  have w1 : IntKind.i64.wrap ((x : Int) * (N : Int)) = ((x * N : Nat) : Int) := by rw [← Int.natCast_mul]; exact wrap_nn (by omega)
  have w2 : IntKind.i64.wrap ((s : Int) * (y : Int)) = ((x * N : Nat) : Int) := by rw [← Int.natCast_mul, ← h3]; exact wrap_nn (by omega)
  have w3 : IntKind.i64.wrap ((y : Int) - (x : Int)) = (x' : Int) := by rw [wrap_i64_id (by omega) (by omega)]; omega
  have q1 : (1 : Int) ≤ (y : Int) := by omega
  have q2 : (y : Int) ≤ (N : Int) := by omega
  have sF := fun R => sw_none (K0 := K0) (R := R)
  simp only [cBx] at sF ⊢
  generalize ((x * N : Nat) : Int) = Z at *
  simp (maxSteps := 1000000) (disch := first | omega | decide | assumption | simp [scal]) [lenA_sl lk_49, o_indexAddrA ea_60, loadA_eq ia_5, o_convI cv_5_3, lenA_sl lk_22, za_42, sz_42, o_indexAddrS es_49, loadA_eq ia_24, o_indexAddrS es_24, loadA_eq ia_3, o_fieldAddr fa_42_1 (by decide), o_fieldAddr fa_42_0 (by decide), loadA_eq ia_42, lenA_sl lk_24, want_some q9_63g2, want_some q9_63g7, want_some q9_63g13, want_some q9_63g18, want_some q9_63g29, want_some q9_77g2, want_some q9_77g6, want_some q9_77g10, want_some q9_92g2, want_some q9_92g6, want_some q9_133g3, want_some q9_140g2, want_some q9_140g6, want_some q9_140g11, want_some q9_140g17, want_some q9_140g28, want_some q9_140g35, want_some q9_140g45, -sweep_eq, k14, sF, w1, w2, w3, q1, q2, h1, h2]
end
end Go.Proofs.Ytfccmddkblbeoaa.rk
namespace Go.Proofs.Ytfccmddkblbeoaa.rk
open Go.GE
set_option linter.unusedVariables false
set_option linter.unusedSimpArgs false
set_option linter.unusedSectionVars false
set_option maxRecDepth 100000
set_option maxHeartbeats 4000000
attribute [local simp] runOps_nil runOps_cons runOpsF_nil runOpsF_cons fstS_some fstF_some opStep_eq want_none oStep_true oStep_false fin_pure fin_read fin_alloc fin_write storeB wrN cellV addWr o_move o_assign o_pick o_alloc o_box o_load o_store o_nilCheck o_bin o_un o_extract o_callV o_callB o_callI callV_f callV_y callV_fc o_makeFunc partsA Instr.fill builtin_len builtin_max2 bin_add bin_sub bin_mul bin_quo bin_rem bin_lss bin_leq bin_gtr bin_geq bin_eql bin_neq un_neg un_not bin_shr bin_shl wrap_u64_id opd opds optAll putO nbeq nblt constOk isC ops sub cl cr co bodyOf thenS_normal thenS_ret thenS_exit thenS_goto afterN_normal afterN_ret afterN_exit afterN_goto condS_true condS_false blockS_normal blockS_ret blockS_exit blockS_goto headS normS normK_eq fixS_nil fixS_cons fix1 fixV emptyB keepO_nil keepO_cons roundC_normal roundC_exit roundC_ret roundC_goto sweep_eq sweepD rnm pickR pickW rootsB ptrT renT ptrFn renFn ptrB_flat ptrB_non renB_flat renB_non plainS_some drawS_some fpsOk disj unord range' dropTo enumT undef wrap_i64_id Value.cells mkCells ptrTo scal cellsAt rdN endS_ret resultsA Option.bind_some tupV finish reachN dep ptrL_eq ptrL renL_eq renL ptrV_bool ptrV_int ptrV_string ptrV_nilFunc ptrV_nilIface ptrV_nilPtr ptrV_ptr ptrV_nilSl ptrV_sl ptrV_iface ptrV_agg ptrV_tuple ptrV_func renV_bool renV_int renV_string renV_nilFunc renV_nilIface renV_nilPtr renV_ptr renV_nilSl renV_sl renV_iface renV_agg renV_tuple renV_func gotoS_goto gotoS_normal gotoS_exit gotoS_ret skip_seq sliceE bnd bndHi intOf optOpd keepT_nil keepT_cons keepC_t keepC_f lk_nil lk_cons lkC_t lkC_f has_nil has_cons hasC_t hasC_f rep_nil rep_cons repC_t repC_f put_eq putC_t putC_f mem_nil mem_cons memC_t memC_f idx_nil idx_cons idxC_t idxC_f reach_nil reachP_cons reachQ_t reachQ_f ptrB_dead renB_dead ins_eq
attribute [local simp] n9_1s n9_3s n9_5s n9_7s n9_9s n9_12s n9_16s n9_19s n9_20s n9_18s n9_24s n9_26s n9_31s n9_33s n9_34s n9_32s n9_30s n9_38s n9_40s n9_43s n9_47s n9_50s n9_51s n9_49s n9_55s n9_57s n9_59s n9_60s n9_58s n9_56s n9_54s n9_53s n9_61s n9_52s n9_48s n9_46s n9_45s n9_45g n9_44s n9_42s n9_63s n9_66s n9_67s n9_65s n9_68s n9_64s n9_62s n9_41s n9_39s n9_37s n9_36s n9_69s n9_35s n9_29s n9_28s n9_28g n9_27s n9_25s n9_23s n9_22s n9_70s n9_21s n9_17s n9_15s n9_14s n9_14g n9_13s n9_11s n9_72s n9_74s n9_77s n9_80s n9_81s n9_79s n9_82s n9_78s n9_76s n9_84s n9_86s n9_89s n9_92s n9_93s n9_91s n9_94s n9_90s n9_88s n9_96s n9_99s n9_103s n9_106s n9_107s n9_105s n9_111s n9_113s n9_117s n9_120s n9_121s n9_119s n9_125s n9_128s n9_130s n9_131s n9_129s n9_127s n9_133s n9_135s n9_136s n9_134s n9_132s n9_126s n9_124s n9_123s n9_137s n9_122s n9_118s n9_116s n9_115s n9_115g n9_114s n9_112s n9_110s n9_109s n9_138s n9_108s n9_104s n9_102s n9_101s n9_101g n9_100s n9_98s n9_140s n9_141s n9_139s n9_97s n9_95s n9_87s n9_85s n9_83s n9_75s n9_73s n9_71s n9_10s n9_8s n9_6s n9_4s n9_2s n9_0s Try.f9
section
variable (K0 : Blk) {A : List (Int × Int)} {n : Nat} {M : List (List Nat)} (H : OkM A) (hA : A.length = n) (n5 : n ≤ 5) (hM : M = ords (nxB (spAt A) n) n n 0) (hk : M.length ≤ 5000) (h1 : 1 ≤ n) (hN : 0 < M.length)
include H hA n5 h1
theorem grE_two : grE (spAt A) n 0 = 0 ∧ grE (spAt A) n (n : Int) = 0 := by
  have hc := cnt_ok H hA n5
  constructor
  · unfold grE; rw [if_pos hc.1, if_pos (by simp)]
  · unfold grE; rw [if_pos hc.1, if_pos (by simp)]
include hM hk hN
theorem t71e (a : Nat) (ha : a < n) : codeB Try.prog LL ⟨9, 242, 1, none⟩ n9_71 ⟨[(5, sl 1 0 n n), (7, iv M.length), (8, iv a), (9, iv a), (6, sl 2 0 M.length M.length)], K0 :: spB A :: lsB 3 M :: M.map nB, []⟩ = some (.ret, ⟨[(4, .bool true)], [K0], []⟩) := by
  have sA := spAt_C A
  rw [hA] at sA
  have n60 : n ≤ 60 := by omega
  have a29 := fun R => k29 1 0 n n (h := K0 :: spB A :: lsB 3 M :: R) rfl sA n60 (fun _ => by omega)
  have a33 := fun R => k33 1 0 n n (h := K0 :: spB A :: lsB 3 M :: R) rfl sA n60 (a : Int) (a : Int)
  have g1 := fun R => a29 R 0
  have g2 := fun R => a29 R (n : Int)
  rw [grV_none H hA n5 h1, (grE_two H hA n5 h1).1] at g1
  rw [grV_all H hA n5 hM h1 hN, (grE_two H hA n5 h1).2] at g2
  have hc := cnt_ok H hA n5
  have e : beE (spAt A) n a a = 7 := by
    unfold beE inR
    rw [if_pos hc.1, if_pos (by simp; omega), if_pos rfl]
  have v : beV (spAt A) n a a = .agg #[iv 0, iv 0] := by
    unfold beV
    rw [e, if_neg (by decide)]
  rw [e, v] at a33
  have hQ : (M.map nB).length = M.length := by simp
  have gq : ∀ z, (M.map nB ++ [z])[M.length]? = some z := fun z => by rw [List.getElem?_append_right (by simp)]; simp
  have tq : ∀ z z', (M.map nB ++ [z]).set M.length z' = M.map nB ++ [z'] := fun z z' => by rw [List.set_append_right _ _ (by simp)]; simp
  have gq2 : ∀ z1 z2, (M.map nB ++ [z1, z2])[M.length + 1]? = some z2 := fun z1 z2 => by rw [List.getElem?_append_right (by simp)]; simp
  have tq2 : ∀ z1 z2 z', (M.map nB ++ [z1, z2]).set (M.length + 1) z' = M.map nB ++ [z1, z'] := fun z1 z2 z' => by rw [List.set_append_right _ _ (by simp)]; simp
  have sF := fun R => sw_none (K0 := K0) (R := R)
  clear sA hc hM hk e v a29
  simp only [cBx, spB, lsB, nB, List.cons_append] at g1 g2 a33 hQ gq tq gq2 tq2 sF ⊢
  generalize M.map (fun L => Blk.cells (nm L) 1 true true) = Q at *
  generalize slS 3 M = X at *
  generalize A.flatMap spG = N at *
  have nn : ∀ a b : Nat, M.length + a + b = M.length + (a + b) := fun a b => Nat.add_assoc _ a b
  generalize M.length = k at *
  simp (maxSteps := 1000000) (disch := first | omega | decide | assumption | simp [scal]) [lenA_sl lk_49, o_indexAddrA ea_60, loadA_eq ia_5, o_convI cv_5_3, lenA_sl lk_22, za_42, sz_42, o_indexAddrS es_49, loadA_eq ia_24, o_indexAddrS es_24, loadA_eq ia_3, o_fieldAddr fa_42_1 (by decide), o_fieldAddr fa_42_0 (by decide), loadA_eq ia_42, lenA_sl lk_24, want_some q9_63g2, want_some q9_63g7, want_some q9_63g13, want_some q9_63g18, want_some q9_63g29, want_some q9_77g2, want_some q9_77g6, want_some q9_77g10, want_some q9_92g2, want_some q9_92g6, want_some q9_133g3, want_some q9_140g2, want_some q9_140g6, want_some q9_140g11, want_some q9_140g17, want_some q9_140g28, want_some q9_140g35, want_some q9_140g45, -sweep_eq, k14, g1, g2, a33, hQ, gq, tq, gq2, tq2, nn, sF]
theorem t71n (a b : Nat) (ha : a < n) (hb : b < n) (hab : a ≠ b) : codeB Try.prog LL ⟨9, 242, 1, none⟩ n9_71 ⟨[(5, sl 1 0 n n), (7, iv M.length), (8, iv a), (9, iv b), (6, sl 2 0 M.length M.length)], K0 :: spB A :: lsB 3 M :: M.map nB, []⟩ = some (.ret, ⟨[(4, .bool true)], [K0], []⟩) := by
  have sA := spAt_C A
  rw [hA] at sA
  have n60 : n ≤ 60 := by omega
  have a29 := fun R => k29 1 0 n n (h := K0 :: spB A :: lsB 3 M :: R) rfl sA n60 (fun _ => by omega)
  have a33 := fun R => k33 1 0 n n (h := K0 :: spB A :: lsB 3 M :: R) rfl sA n60 (a : Int) (b : Int)
  have a33' := fun R => k33 1 0 n n (h := K0 :: spB A :: lsB 3 M :: R) rfl sA n60 (b : Int) (a : Int)
  have g1 := fun R => a29 R 0
  have g2 := fun R => a29 R (n : Int)
  rw [grV_none H hA n5 h1, (grE_two H hA n5 h1).1] at g1
  rw [grV_all H hA n5 hM h1 hN, (grE_two H hA n5 h1).2] at g2
  obtain ⟨v1, v2⟩ := be_val H hA n5 hM ha hb hab
  obtain ⟨u1, u2⟩ := be_val H hA n5 hM hb ha hab.symm
  rw [v1, v2] at a33
  rw [u1, u2] at a33'
  have hO : ∀ O, O ∈ M → O.length = n := fun O h => (ord_MO H hA n5 hM hk h).1.lo
  have hmem : ∀ O, O ∈ M → a ∈ O := fun O h => by
    rw [hM] at h
    obtain ⟨f1, f2, f3, _⟩ := (full_iff (quiet_self H hA)).1 h
    exact full_mem f3 f2 f1 ha
  have htwo := sumF_two hab M hmem
  have lf := fun x y x' y' => l9f K0 hk n5 hO x y x' y' a b M.length 0 0 (by omega) (by omega)
  rw [List.drop_zero] at lf
  simp only [Nat.zero_add] at lf
  have hle : sumF a b M ≤ M.length := by omega
  have hsub : sumF b a M = M.length - sumF a b M := by omega
  unfold redV at a33 a33'
  rw [hsub] at a33'
  obtain ⟨r6, r7⟩ := red_sub hle hN
  rw [r6, r7] at a33'
  generalize sumF a b M = s at *
  have r2 := red_eq (c := s) (N := M.length)
  have r3 := Nat.div_le_self s (Nat.gcd s M.length)
  have r4 := Nat.div_le_self M.length (Nat.gcd s M.length)
  have r5 : 1 ≤ M.length / Nat.gcd s M.length := Nat.div_pos (Nat.le_of_dvd hN (Nat.gcd_dvd_right _ _)) (Nat.gcd_pos_of_pos_right _ hN)
  have r8 : s / Nat.gcd s M.length ≤ M.length / Nat.gcd s M.length := Nat.div_le_div_right hle
  generalize s / Nat.gcd s M.length = x at *
  generalize M.length / Nat.gcd s M.length = y at *
  obtain ⟨x', hx'⟩ : ∃ x', y - x = x' := ⟨_, rfl⟩
  rw [hx'] at a33'
  have tl := t139 K0 (N := M.length) (x := x) (y := y) (x' := x') (s := s) hk (by omega) (by omega) r5 r4 r2 (by omega)
  have s1 := sw9g K0 (A := A.flatMap spG) hk (B1 := cBx x y) (B2 := cBx x' y) noIdB_flat noIdB_flat [(7, iv M.length), (8, iv a), (9, iv b), (18, iv 0), (20, iv 0), (21, pp (M.length + 3)), (22, pp (M.length + 4)), (23, iv 0), (168, iv M.length), (169, iv 0), (167, sl 2 0 M.length M.length)]
    [(7, iv M.length), (8, iv a), (9, iv b), (18, iv 0), (20, iv 0), (21, pp 1), (22, pp 2), (23, iv 0), (168, iv M.length), (169, iv 0), (167, sl 3 0 M.length M.length)] rfl (fun f h1 h2 h3 => by simp [renT, renV_sl, renV_int, renV_ptr, dep, h1, h2, h3])
  have hQ : (M.map nB).length = M.length := by simp
  have gq : ∀ z, (M.map nB ++ [z])[M.length]? = some z := fun z => by rw [List.getElem?_append_right (by simp)]; simp
  have tq : ∀ z z', (M.map nB ++ [z]).set M.length z' = M.map nB ++ [z'] := fun z z' => by rw [List.set_append_right _ _ (by simp)]; simp
  have gq2 : ∀ z1 z2, (M.map nB ++ [z1, z2])[M.length + 1]? = some z2 := fun z1 z2 => by rw [List.getElem?_append_right (by simp)]; simp
  have tq2 : ∀ z1 z2 z', (M.map nB ++ [z1, z2]).set (M.length + 1) z' = M.map nB ++ [z1, z'] := fun z1 z2 z' => by rw [List.set_append_right _ _ (by simp)]; simp
  have hab' : ¬ (a : Int) = b := by omega
  have lf := lf x y x' y
  clear sA hM hmem hO htwo v1 v2 u1 u2 r6 r7 r2 hsub a29
  simp only [cBx, spB, lsB, nB, List.cons_append, Int.natCast_zero] at g1 g2 a33 a33' lf tl s1 hQ gq tq gq2 tq2 ⊢
  generalize M.map (fun L => Blk.cells (nm L) 1 true true) = Q at *
  generalize slS 3 M = X at *
  generalize slS 4 M = Y at *
  generalize A.flatMap spG = N at *
  have nn : ∀ a b : Nat, M.length + a + b = M.length + (a + b) := fun a b => Nat.add_assoc _ a b
  generalize M.length = k at *
  simp (maxSteps := 1000000) (disch := first | omega | decide | assumption | simp [scal]) [lenA_sl lk_49, o_indexAddrA ea_60, loadA_eq ia_5, o_convI cv_5_3, lenA_sl lk_22, za_42, sz_42, o_indexAddrS es_49, loadA_eq ia_24, o_indexAddrS es_24, loadA_eq ia_3, o_fieldAddr fa_42_1 (by decide), o_fieldAddr fa_42_0 (by decide), loadA_eq ia_42, lenA_sl lk_24, want_some q9_63g2, want_some q9_63g7, want_some q9_63g13, want_some q9_63g18, want_some q9_63g29, want_some q9_77g2, want_some q9_77g6, want_some q9_77g10, want_some q9_92g2, want_some q9_92g6, want_some q9_133g3, want_some q9_140g2, want_some q9_140g6, want_some q9_140g11, want_some q9_140g17, want_some q9_140g28, want_some q9_140g35, want_some q9_140g45, -sweep_eq, -n9_139s, g1, g2, a33, a33', hQ, gq, tq, gq2, tq2, nn, hab, hab', s1, lf, tl]
end
end Go.Proofs.Ytfccmddkblbeoaa.rk
namespace Go.Proofs.Ytfccmddkblbeoaa.rk
open Go.GE
set_option linter.unusedVariables false
set_option linter.unusedSimpArgs false
set_option linter.unusedSectionVars false
set_option maxRecDepth 100000
set_option maxHeartbeats 4000000
attribute [local simp] runOps_nil runOps_cons runOpsF_nil runOpsF_cons fstS_some fstF_some opStep_eq want_none oStep_true oStep_false fin_pure fin_read fin_alloc fin_write storeB wrN cellV addWr o_move o_assign o_pick o_alloc o_box o_load o_store o_nilCheck o_bin o_un o_extract o_callV o_callB o_callI callV_f callV_y callV_fc o_makeFunc partsA Instr.fill builtin_len builtin_max2 bin_add bin_sub bin_mul bin_quo bin_rem bin_lss bin_leq bin_gtr bin_geq bin_eql bin_neq un_neg un_not bin_shr bin_shl wrap_u64_id opd opds optAll putO nbeq nblt constOk isC ops sub cl cr co bodyOf thenS_normal thenS_ret thenS_exit thenS_goto afterN_normal afterN_ret afterN_exit afterN_goto condS_true condS_false blockS_normal blockS_ret blockS_exit blockS_goto headS normS normK_eq fixS_nil fixS_cons fix1 fixV emptyB keepO_nil keepO_cons roundC_normal roundC_exit roundC_ret roundC_goto sweep_eq sweepD rnm pickR pickW rootsB ptrT renT ptrFn renFn ptrB_flat ptrB_non renB_flat renB_non plainS_some drawS_some fpsOk disj unord range' dropTo enumT undef wrap_i64_id Value.cells mkCells ptrTo scal cellsAt rdN endS_ret resultsA Option.bind_some tupV finish reachN dep ptrL_eq ptrL renL_eq renL ptrV_bool ptrV_int ptrV_string ptrV_nilFunc ptrV_nilIface ptrV_nilPtr ptrV_ptr ptrV_nilSl ptrV_sl ptrV_iface ptrV_agg ptrV_tuple ptrV_func renV_bool renV_int renV_string renV_nilFunc renV_nilIface renV_nilPtr renV_ptr renV_nilSl renV_sl renV_iface renV_agg renV_tuple renV_func gotoS_goto gotoS_normal gotoS_exit gotoS_ret skip_seq sliceE bnd bndHi intOf optOpd keepT_nil keepT_cons keepC_t keepC_f lk_nil lk_cons lkC_t lkC_f has_nil has_cons hasC_t hasC_f rep_nil rep_cons repC_t repC_f put_eq putC_t putC_f mem_nil mem_cons memC_t memC_f idx_nil idx_cons idxC_t idxC_f reach_nil reachP_cons reachQ_t reachQ_f ptrB_dead renB_dead ins_eq
attribute [local simp] n9_1s n9_3s n9_5s n9_7s n9_9s n9_12s n9_16s n9_19s n9_20s n9_18s n9_24s n9_26s n9_31s n9_33s n9_34s n9_32s n9_30s n9_38s n9_40s n9_43s n9_47s n9_50s n9_51s n9_49s n9_55s n9_57s n9_59s n9_60s n9_58s n9_56s n9_54s n9_53s n9_61s n9_52s n9_48s n9_46s n9_45s n9_45g n9_44s n9_42s n9_63s n9_66s n9_67s n9_65s n9_68s n9_64s n9_62s n9_41s n9_39s n9_37s n9_36s n9_69s n9_35s n9_29s n9_28s n9_28g n9_27s n9_25s n9_23s n9_22s n9_70s n9_21s n9_17s n9_15s n9_14s n9_14g n9_13s n9_11s n9_72s n9_74s n9_77s n9_80s n9_81s n9_79s n9_82s n9_78s n9_76s n9_84s n9_86s n9_89s n9_92s n9_93s n9_91s n9_94s n9_90s n9_88s n9_96s n9_99s n9_103s n9_106s n9_107s n9_105s n9_111s n9_113s n9_117s n9_120s n9_121s n9_119s n9_125s n9_128s n9_130s n9_131s n9_129s n9_127s n9_133s n9_135s n9_136s n9_134s n9_132s n9_126s n9_124s n9_123s n9_137s n9_122s n9_118s n9_116s n9_115s n9_115g n9_114s n9_112s n9_110s n9_109s n9_138s n9_108s n9_104s n9_102s n9_101s n9_101g n9_100s n9_98s n9_140s n9_141s n9_139s n9_97s n9_95s n9_87s n9_85s n9_83s n9_75s n9_73s n9_71s n9_10s n9_8s n9_6s n9_4s n9_2s n9_0s Try.f9
section
variable (off n0 c p q : Nat) {cs : List Value} {own : Bool} {g : Nat → Nat × Nat}
theorem c9 (hc : WeC cs off n0 g) (hp : p < 256) (hq : q < 256) : LL.run 9 [sl 0 off n0 c, .agg #[uv p, uv q]] [.cells cs 2 true own] = some ⟨.bool true, [], []⟩ := by
  have a35 := fun bx => k35 off n0 c 0 (h := [.cells cs 2 true own, bx]) rfl hc
  have hM := madR_M (g := g) (n := n0)
  obtain ⟨g1, g5, glo⟩ := madR_ok (g := g) (n := n0)
  generalize madR g n0 = A at *
  obtain ⟨n, hn⟩ : ∃ n, A.length = n := ⟨_, rfl⟩
  have n5 : n ≤ 5 := by omega
  have hn1 : 1 ≤ n := by omega
  have n60 : n ≤ 60 := by omega
  have sA := spAt_C A
  rw [hn] at a35 sA
  have a36 := fun bx => k36n (h := [.cells cs 2 true own, bx, spB A]) (b := 2) rfl sA n5 hn1
  have hbd := oFL_bound (l := spAt A) n5 n []
  have hp5 : (5 : Nat) ^ n ≤ 5 ^ 5 := Nat.pow_le_pow_right (by decide) n5
  have e5 : (5 : Nat) ^ 5 = 3125 := rfl
  rw [all_ords hM hn n5] at a36 hbd
  have hck := hM.chk
  rw [hn] at hck
  have h0 : (ords (nxB (spAt A) n) n n 0)[0]? = some (fstR (spAt A) n) := by
    rw [fs_get (chk_le hck) n 0 cntU_zero]
    unfold fstR
    rw [if_pos hck]
  have hN : 0 < (ords (nxB (spAt A) n) n n 0).length := (List.getElem?_eq_some_iff.1 h0).1
  have hk5 : (ords (nxB (spAt A) n) n n 0).length ≤ 5000 := by omega
  obtain ⟨a, ea⟩ : ∃ a, p % n = a := ⟨_, rfl⟩
  obtain ⟨b, eb⟩ : ∃ b, q % n = b := ⟨_, rfl⟩
  have ta : Int.tmod (p : Int) (n : Int) = (a : Int) := by rw [Int.tmod_eq_emod_of_nonneg (by omega)]; omega
  have tb : Int.tmod (q : Int) (n : Int) = (b : Int) := by rw [Int.tmod_eq_emod_of_nonneg (by omega)]; omega
  have an : a < n := by rw [← ea]; exact Nat.mod_lt _ (by omega)
  have bn : b < n := by rw [← eb]; exact Nat.mod_lt _ (by omega)
  have hne : (n : Int) ≠ 0 := by omega
  have lp := l9a (.cells cs 2 true own) hM hn n5 (M := ords (nxB (spAt A) n) n n 0) rfl hk5 hn1 hN a b n 0 (by omega)
  have tl : codeB Try.prog LL ⟨9, 242, 1, none⟩ n9_71 ⟨[(5, sl 1 0 n n), (7, iv (ords (nxB (spAt A) n) n n 0).length), (8, iv a), (9, iv b), (6, sl 2 0 (ords (nxB (spAt A) n) n n 0).length (ords (nxB (spAt A) n) n n 0).length)], .cells cs 2 true own :: spB A :: lsB 3 (ords (nxB (spAt A) n) n n 0) :: (ords (nxB (spAt A) n) n n 0).map nB, []⟩ = some (.ret, ⟨[(4, .bool true)], [.cells cs 2 true own], []⟩) := by
    by_cases hab : a = b
    · subst hab; exact t71e (.cells cs 2 true own) hM hn n5 rfl hk5 hn1 hN a an
    · exact t71n (.cells cs 2 true own) hM hn n5 rfl hk5 hn1 hN a b an bn hab
  generalize ords (nxB (spAt A) n) n n 0 = M at *
  have s0 := fun bx by' => sweep_pre (base := 1) (H := .cells cs 2 true own :: bx :: spB A :: by' :: lsB 5 M :: M.map nB) (M := M) (N := 4) (p := 5) [2] [spB A] [] (σ := [(5, sl 2 0 n n), (7, iv M.length), (8, iv a), (9, iv b), (47, iv n), (48, iv 0), (6, sl 4 0 M.length M.length)]) (σ' := [(5, sl 1 0 n n), (7, iv M.length), (8, iv a), (9, iv b), (47, iv n), (48, iv 0), (6, sl 2 0 M.length M.length)])
    rfl (fun blk hb => by simp only [List.mem_cons, List.not_mem_nil, or_false] at hb; subst hb; exact noIdB_flat) (by decide) (fun b hb => by simp only [List.mem_cons, List.not_mem_nil, or_false] at hb; omega) rfl (fun j O hj => by
      rw [show 5 + j = j + 1 + 1 + 1 + 1 + 1 by omega]
      simp only [List.getElem?_cons_succ]
      exact map_at hj) (by omega) (by omega) (by omega) (by omega) (by decide) (by decide) rfl (by simp) (fun f h1 h2 h3 => by have := h1 0 2 rfl; simp [renT, renV_sl, renV_int, dep, this, h2])
  clear sA h0 hM glo hbd hc hck
  simp only [spB, lsB, nB, nm_nil, List.length_nil, List.cons_append, List.nil_append, List.length_cons, Nat.reduceAdd, Int.natCast_zero, List.take_succ_cons, List.take_zero] at a35 a36 s0 lp tl ⊢
  generalize M.map (fun L => Blk.cells (nm L) 1 true true) = Q at *
  generalize slS 5 M = X at *
  generalize slS 3 M = Y at *
  generalize A.flatMap spG = N at *
  generalize M.length = k at *
  refine go (by decide) ?_
  rw [run9 _ _ _ (by simp)]
  simp (maxSteps := 1000000) (disch := first | omega | decide | assumption | simp [scal]) [lenA_sl lk_49, o_indexAddrA ea_60, loadA_eq ia_5, o_convI cv_5_3, lenA_sl lk_22, za_42, sz_42, o_indexAddrS es_49, loadA_eq ia_24, o_indexAddrS es_24, loadA_eq ia_3, o_fieldAddr fa_42_1 (by decide), o_fieldAddr fa_42_0 (by decide), loadA_eq ia_42, lenA_sl lk_24, want_some q9_63g2, want_some q9_63g7, want_some q9_63g13, want_some q9_63g18, want_some q9_63g29, want_some q9_77g2, want_some q9_77g6, want_some q9_77g10, want_some q9_92g2, want_some q9_92g6, want_some q9_133g3, want_some q9_140g2, want_some q9_140g6, want_some q9_140g11, want_some q9_140g17, want_some q9_140g28, want_some q9_140g35, want_some q9_140g45, -sweep_eq, -n9_71s, k14, a35, a36, ta, tb, hne, an, bn, s0, lp, tl]
end
end Go.Proofs.Ytfccmddkblbeoaa.rk
