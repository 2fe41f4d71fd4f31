/-
  Contracts of functions of the program at the limit evaluator, continued. No condition.
-/
import Derived.Test.YtfccmddkblbeoaaRF1
import Derived.Test.YtfccmddkblbeoaaE40
namespace Go.Proofs.Ytfccmddkblbeoaa.rk
open Go.GE
set_option linter.unusedVariables false
set_option linter.unusedSimpArgs false
set_option linter.unusedSectionVars false
set_option maxRecDepth 100000
set_option maxHeartbeats 4000000
attribute [local simp] runOps_nil runOps_cons runOpsF_nil runOpsF_cons fstS_some fstF_some opStep_eq want_none oStep_true oStep_false fin_pure fin_read fin_alloc fin_write storeB wrN cellV addWr o_move o_assign o_pick o_alloc o_box o_load o_store o_nilCheck o_bin o_un o_extract o_callV o_callB o_callI callV_f callV_y callV_fc o_makeFunc partsA Instr.fill builtin_len builtin_max2 bin_add bin_sub bin_mul bin_quo bin_rem bin_lss bin_leq bin_gtr bin_geq bin_eql bin_neq un_neg un_not bin_shr bin_shl wrap_u64_id opd opds optAll putO nbeq nblt constOk isC ops sub cl cr co bodyOf thenS_normal thenS_ret thenS_exit thenS_goto afterN_normal afterN_ret afterN_exit afterN_goto condS_true condS_false blockS_normal blockS_ret blockS_exit blockS_goto headS normS normK_eq fixS_nil fixS_cons fix1 fixV emptyB keepO_nil keepO_cons roundC_normal roundC_exit roundC_ret roundC_goto sweep_eq sweepD rnm pickR pickW rootsB ptrT renT ptrFn renFn ptrB_flat ptrB_non renB_flat renB_non plainS_some drawS_some fpsOk disj unord range' dropTo enumT undef wrap_i64_id Value.cells mkCells ptrTo scal cellsAt rdN endS_ret resultsA Option.bind_some tupV finish reachN dep ptrL_eq ptrL renL_eq renL ptrV_bool ptrV_int ptrV_string ptrV_nilFunc ptrV_nilIface ptrV_nilPtr ptrV_ptr ptrV_nilSl ptrV_sl ptrV_iface ptrV_agg ptrV_tuple ptrV_func renV_bool renV_int renV_string renV_nilFunc renV_nilIface renV_nilPtr renV_ptr renV_nilSl renV_sl renV_iface renV_agg renV_tuple renV_func gotoS_goto gotoS_normal gotoS_exit gotoS_ret skip_seq sliceE bnd bndHi intOf optOpd keepT_nil keepT_cons keepC_t keepC_f lk_nil lk_cons lkC_t lkC_f has_nil has_cons hasC_t hasC_f rep_nil rep_cons repC_t repC_f put_eq putC_t putC_f mem_nil mem_cons memC_t memC_f idx_nil idx_cons idxC_t idxC_f reach_nil reachP_cons reachQ_t reachQ_f ptrB_dead renB_dead ins_eq
attribute [local simp] n36_1s n36_4s n36_8s n36_11s n36_12s n36_10s n36_13s n36_9s n36_7s n36_15s n36_16s n36_14s n36_6s n36_17s n36_5s n36_3s n36_19s n36_22s n36_26s n36_29s n36_30s n36_28s n36_34s n36_36s n36_39s n36_43s n36_46s n36_47s n36_45s n36_51s n36_52s n36_50s n36_49s n36_53s n36_48s n36_44s n36_42s n36_41s n36_41g n36_40s n36_38s n36_55s n36_57s n36_58s n36_56s n36_54s n36_37s n36_35s n36_33s n36_32s n36_59s n36_31s n36_27s n36_25s n36_24s n36_24g n36_23s n36_21s n36_61s n36_62s n36_60s n36_20s n36_18s n36_2s n36_0s Try.f36
theorem nB_all {g : Nat → Option Nat} : ∀ (M : List (List Nat)), optAll (renB g) (M.map nB) = some (M.map nB) := by
  intro M
  induction M with
  | nil => rfl
  | cons O M ih => simp only [List.map_cons, optAll, renB_flat, ih]
/-- a call of two arguments that answers a list of lists -/
theorem callL_2 {f : FuncId} {args args' : List Value} {h : List Blk} {b1 b2 : Nat} {k1 k2 : Blk} (M : List (List Nat)) (hp : args.flatMap (ptrV dep) = [b1, b2]) (hb1 : h[b1]? = some k1) (hb2 : h[b2]? = some k2) (hne : b1 ≠ b2) (hn1 : noIdB k1) (hn2 : noIdB k2)
    (hr : optAll (renV (idx [b1, b2]) dep) args = some args') (he : LL.run f args' [k1, k2] = some ⟨sl 2 0 M.length M.length, lsB 3 M :: M.map nB, []⟩) (hk : idle LL f args) :
    callH LL f args h = some ⟨sl h.length 0 M.length M.length, h ++ lsB (h.length + 1) M :: M.map nB, [b1, b2], []⟩ := by
  refine callH_of hk ?_ (by have g1 := (List.getElem?_eq_some_iff.1 hb1).1; have g2 := (List.getElem?_eq_some_iff.1 hb2).1; intro b hb; simp at hb; rcases hb with rfl | rfl <;> assumption)
  unfold callH0
  rw [hp, reach_two hb1 hb2 hne hn1.2 hn2.2 (by decide)]
  simp only [hr, optAll, hb1, hb2, hn1.1, hn2.1, he]
  have hs : ∀ g : Nat → Option Nat, (∀ j, j < M.length → g (3 + j) = some (h.length + 1 + j)) → renB g (lsB 3 M) = some (lsB (h.length + 1) M) := by
    intro g hg
    rw [renB_non, slS_ren M 3 (h.length + 1) hg]
    rfl
  unfold mergeB
  simp only [dep, renV_sl, optAll]
  rw [hs _ (fun j hj => by
    have e1 : Nat.blt (3 + j) 2 = false := by rw [nblt]; simp; omega
    show (bif Nat.blt (3 + j) 2 then [b1, b2][3 + j]? else some (h.length + (3 + j - 2))) = _
    rw [e1, cond_false]
    exact congrArg some (by omega)), nB_all M]
  rfl
theorem callZ_2 {f : FuncId} {args args' : List Value} {h : List Blk} {b1 b2 n : Nat} {k1 k2 : Blk} (hp : args.flatMap (ptrV dep) = [b1, b2]) (hb1 : h[b1]? = some k1) (hb2 : h[b2]? = some k2) (hne : b1 ≠ b2) (hn1 : noIdB k1) (hn2 : noIdB k2)
    (hr : optAll (renV (idx [b1, b2]) dep) args = some args') (he : LL.run f args' [k1, k2] = some ⟨sl 2 0 1 1, [.cells [sl 1 0 n n] 1 false true], []⟩) (hk : idle LL f args) :
    callH LL f args h = some ⟨sl h.length 0 1 1, h ++ [.cells [sl b2 0 n n] 1 false true], [b1, b2], []⟩ := by
  refine callH_of hk ?_ (by have g1 := (List.getElem?_eq_some_iff.1 hb1).1; have g2 := (List.getElem?_eq_some_iff.1 hb2).1; intro b hb; simp at hb; rcases hb with rfl | rfl <;> assumption)
  unfold callH0
  rw [hp, reach_two hb1 hb2 hne hn1.2 hn2.2 (by decide)]
  simp only [hr, optAll, hb1, hb2, hn1.1, hn2.1, he]
  rfl
theorem finish_to {base : Nat} {v v' : Value} {H news : List Blk} {δ : List Nat} (hr : reach H base reachN (ptrV dep v) [] = δ) (hv : renV (rnm base δ) dep v = some v') (hb : optAll (pickR base δ H) δ = some news) : finish base v H [] = some ⟨v', news, []⟩ := by
  unfold finish
  simp only [List.flatMap_nil, List.append_nil, hr]
  show (match renV (rnm base δ) dep v, optAll (pickR base δ H) δ, (some [] : Option (List (Nat × Blk))) with
    | some v', some news, some ws => some (⟨v', news, ws⟩ : RR)
    | _, _, _ => none) = _
  rw [hv, hb]
theorem fin_L {K0 K1 : Blk} {Z : List (List Nat)} (h5 : Z.length ≤ 50000) : finish 2 (sl 2 0 Z.length Z.length) (K0 :: K1 :: lsB 3 Z :: Z.map nB) [] = some ⟨sl 2 0 Z.length Z.length, lsB 3 Z :: Z.map nB, []⟩ := by
  have hr : reach (K0 :: K1 :: lsB 3 Z :: Z.map nB) 2 reachN [2] [] = 2 :: rgN 3 Z.length := by
    rw [show reachN = 99999 + 1 from rfl, reach_new (blk := lsB 3 Z) (by omega) (by simp) rfl, ptrB_non, slS_ptr, reach_rg _ _ _ _ (by omega) (by omega) ?_, reach_nil]
    · rfl
    · intro j a b
      obtain ⟨i, rfl⟩ : ∃ i, j = i + 1 + 1 + 1 := ⟨j - 3, by omega⟩
      have hj : i < Z.length := by omega
      refine ⟨⟨nB Z[i], ?_, ptrB_flat⟩, by simp⟩
      simp only [List.getElem?_cons_succ]
      exact map_at (List.getElem?_eq_getElem hj)
  have f2 : rnm 2 (2 :: rgN 3 Z.length) 2 = some 2 := rfl
  have fL : ∀ j, j < Z.length → rnm 2 (2 :: rgN 3 Z.length) (3 + j) = some (3 + j) := by
    intro j hj
    have := idx_rgN (r := []) Z.length 3 j hj
    rw [List.append_nil] at this
    unfold rnm
    rw [nblt, decide_eq_false (by omega), cond_false, idx_cons, nbeq, decide_eq_false (by omega), idxC_f, this]
    simp only [Option.map_some]; congr 1; omega
  have hb : optAll (pickR 2 (2 :: rgN 3 Z.length) (K0 :: K1 :: lsB 3 Z :: Z.map nB)) (2 :: rgN 3 Z.length) = some (lsB 3 Z :: Z.map nB) := by
    have h2 : pickR 2 (2 :: rgN 3 Z.length) (K0 :: K1 :: lsB 3 Z :: Z.map nB) 2 = some (lsB 3 Z) := by
      unfold pickR
      simp only [List.getElem?_cons_succ, List.getElem?_cons_zero]
      rw [renB_non, slS_ren Z 3 3 fL]
      rfl
    simp only [optAll, h2]
    rw [pick_rg Z 3 (fun j O h => by rw [show 3 + j = j + 1 + 1 + 1 by omega]; simp only [List.getElem?_cons_succ]; exact map_at h)]
  have hv : renV (rnm 2 (2 :: rgN 3 Z.length)) dep (sl 2 0 Z.length Z.length) = some (sl 2 0 Z.length Z.length) := rfl
  exact finish_to hr hv hb
/-- the orders that go on from some days, as they are tried -/
def oFL (l : Nat → Int × Int) (n : Nat) : Nat → List Nat → List (List Nat)
  | 0, B => cond (risL l (ntAt B) n 0 0) [B] []
  | k + 1, B => apS (gF B (fun i => oFL l n k (B ++ [i]))) n 0
theorem apS_bound {F : Nat → List (List Nat)} {c : Nat} (h : ∀ i, (F i).length ≤ c) : ∀ q i, (apS F q i).length ≤ q * c := by
  intro q
  induction q with
  | zero => intro i; simp [apS]
  | succ q ih =>
    intro i
    have := ih (i + 1)
    have := h i
    simp only [apS, List.length_append, Nat.succ_mul]; omega
theorem oFL_bound {l : Nat → Int × Int} {n : Nat} (hn : n ≤ 5) : ∀ k B, (oFL l n k B).length ≤ 5 ^ k := by
  intro k
  induction k with
  | zero => intro B; unfold oFL; cases risL l (ntAt B) n 0 0 <;> simp
  | succ k ih =>
    intro B
    unfold oFL
    have := apS_bound (F := gF B (fun i => oFL l n k (B ++ [i]))) (c := 5 ^ k) (fun i => by
      unfold gF
      cases ucL B i B.length 0 false
      · exact ih _
      · simp) n 0
    have h2 : n * 5 ^ k ≤ 5 * 5 ^ k := Nat.mul_le_mul_right _ hn
    rw [Nat.pow_succ]; omega
section
variable {cs : List Value} {l : Nat → Int × Int} {n : Nat} (hc : SpC cs 0 n l) (hn : n ≤ 5)
include hc hn
theorem c36z {B : List Nat} (hB : B.length = n) (hx : ∀ x, x ∈ B → x < n) :
    LL.run 36 [sl 0 0 n n, sl 1 0 n n] [.cells cs 2 true true, nB B] = if risL l (ntAt B) n 0 0 = true then some ⟨sl 2 0 1 1, [.cells [sl 1 0 n n] 1 false true], []⟩ else some ⟨sl 2 0 0 0, [.cells [] 1 false true], []⟩ := by
  have hi := nm_C B
  rw [hB] at hi
  have a := fun bx => k51 0 0 n n 1 0 n n (h := .cells cs 2 true true :: nB B :: bx) rfl rfl (by decide) hc hi (by omega) (fun j hj => by
    have : B.getD j 0 ∈ B := by rw [List.getD_eq_getElem?_getD, List.getElem?_eq_getElem (by omega)]; exact List.getElem_mem _
    have := hx _ this
    unfold ntAt
    omega)
  cases hr : risL l (ntAt B) n 0 0
  · rw [if_neg (by decide)]
    refine go (by decide) ?_
    rw [run36 _ _ _ (by simp)]
    rw [hr] at a
    simp only [nB] at a ⊢
    simp (maxSteps := 1000000) (disch := first | omega | decide | assumption | simp [scal]) [lenA_sl lk_24, lenA_sl lk_22, o_indexAddrS es_49, ze_49, o_buildSlice es_49 ze_49 (by decide) ba_49_1, o_indexAddrS es_24, loadA_eq ia_3, ze_24, o_buildSlice es_24 ze_24 (by decide) ba_24_0, ap_24, builtin_append ni_24, o_buildSlice es_24 ze_24 (by decide) ba_24_1, ap_49, builtin_append ni_49, want_some q36_52g1, a]
  · rw [if_pos rfl]
    refine go (by decide) ?_
    rw [run36 _ _ _ (by simp)]
    rw [hr] at a
    simp only [nB] at a ⊢
    simp (maxSteps := 1000000) (disch := first | omega | decide | assumption | simp [scal]) [lenA_sl lk_24, lenA_sl lk_22, o_indexAddrS es_49, ze_49, o_buildSlice es_49 ze_49 (by decide) ba_49_1, o_indexAddrS es_24, loadA_eq ia_3, ze_24, o_buildSlice es_24 ze_24 (by decide) ba_24_0, ap_24, builtin_append ni_24, o_buildSlice es_24 ze_24 (by decide) ba_24_1, ap_49, builtin_append ni_49, want_some q36_52g1, a]
theorem k36 : ∀ (k : Nat) (B : List Nat), B.length + k = n → (∀ x, x ∈ B → x < n) → O36 n cs B (oFL l n k B) ∨ Z36 n cs B ∧ oFL l n k B = [B] ∧ k = 0 := by
  intro k
  induction k with
  | zero =>
    intro B hB hx
    have hB' : B.length = n := by omega
    have c := c36z hc hn hB' hx
    unfold oFL O36 Z36
    rw [hB']
    cases hr : risL l (ntAt B) n 0 0
    · rw [hr, if_neg (by decide)] at c
      refine .inl fun h b1 b2 h1 h2 hne => ?_
      exact callL_2 (M := []) rfl h1 h2 hne noIdB_flat noIdB_flat (so_ren hne rfl) c fun _ => rfl
    · rw [hr, if_pos rfl] at c
      refine .inr ⟨fun h b1 b2 h1 h2 hne => ?_, rfl, rfl⟩
      exact callZ_2 rfl h1 h2 hne noIdB_flat noIdB_flat (so_ren hne rfl) c fun _ => rfl
  | succ k ih =>
    intro B hB hx
    have hp : (5 : Nat) ^ k ≤ 5 ^ 4 := Nat.pow_le_pow_right (by decide) (by omega)
    have lp := l36 n B.length cs (B := B) rfl (by omega) hn (fun i => oFL l n k (B ++ [i])) (fun i hi => by
      have := oFL_bound (l := l) hn k (B ++ [i])
      have e : (5 : Nat) ^ 4 = 625 := rfl
      omega) (fun i hi hu => by
      rcases ih (B ++ [i]) (by simp; omega) (fun x hx' => by
        simp only [List.mem_append, List.mem_singleton] at hx'
        rcases hx' with h | rfl
        · exact hx x h
        · exact hi) with h | ⟨h, h', _⟩
      · exact .inl h
      · exact .inr ⟨h, h'⟩) n 0 [] (by omega) (by simp)
    rw [List.nil_append] at lp
    have hb := oFL_bound (l := l) hn (k + 1) B
    have hp' : (5 : Nat) ^ (k + 1) ≤ 5 ^ 5 := Nat.pow_le_pow_right (by decide) (by omega)
    have e5 : (5 : Nat) ^ 5 = 3125 := rfl
    have hZ : oFL l n (k + 1) B = apS (gF B (fun i => oFL l n k (B ++ [i]))) n 0 := rfl
    rw [← hZ] at lp
    generalize oFL l n (k + 1) B = Z at *
    have hbn : ¬ B.length = n := by omega
    have hbn' : ¬ (B.length : Int) = n := by omega
    have f1 := fin_L (K0 := .cells cs 2 true true) (K1 := nB B) (Z := Z) (by omega)
    have c : LL.run 36 [sl 0 0 n n, sl 1 0 B.length B.length] [.cells cs 2 true true, nB B] = some ⟨sl 2 0 Z.length Z.length, lsB 3 Z :: Z.map nB, []⟩ := by
      refine go (by decide) ?_
      rw [run36 _ _ _ (by simp)]
      have s1 := sw36 (A := cs) (N := nm B) (L := Z) (by omega) [(4, sl 2 0 Z.length Z.length)] (.inr (.inl rfl)) (fun f h0 h1 h2 => by simp [renT, renV_sl, dep, h2])
      have s0 := sw36 (A := cs) (N := nm B) (L := []) (by simp) [(0, sl 0 0 n n), (1, sl 1 0 B.length B.length), (5, sl 2 0 0 0), (21, iv n), (22, iv 0)] (.inl rfl) (fun f h0 h1 h2 => by simp [renT, renV_sl, renV_int, dep, h0, h1, h2])
      simp only [lsB, nB, slS, List.length_nil, List.map_nil, Int.natCast_zero] at lp s0 s1 f1 ⊢
      generalize Z.map (fun L => Blk.cells (nm L) 1 true true) = QZ at *
      generalize slS 3 Z = XZ at *
      generalize nm B = N at *
      simp (maxSteps := 1000000) (disch := first | omega | decide | assumption | simp [scal]) [lenA_sl lk_24, lenA_sl lk_22, o_indexAddrS es_49, ze_49, o_buildSlice es_49 ze_49 (by decide) ba_49_1, o_indexAddrS es_24, loadA_eq ia_3, ze_24, o_buildSlice es_24 ze_24 (by decide) ba_24_0, ap_24, builtin_append ni_24, o_buildSlice es_24 ze_24 (by decide) ba_24_1, ap_49, builtin_append ni_49, want_some q36_52g1, -sweep_eq, -finish, lp, s0, s1, f1, hbn, hbn']
    exact .inl fun h b1 b2 h1 h2 hne => callL_2 Z rfl h1 h2 hne noIdB_flat noIdB_flat (so_ren hne rfl) c fun _ => rfl
end
end Go.Proofs.Ytfccmddkblbeoaa.rk
namespace Go.Proofs.Ytfccmddkblbeoaa.rk
open Go.GE
set_option linter.unusedVariables false
set_option linter.unusedSimpArgs false
set_option linter.unusedSectionVars false
set_option maxRecDepth 100000
set_option maxHeartbeats 4000000
theorem apS_congr {F G : Nat → List (List Nat)} : ∀ q i, (∀ j, i ≤ j → j < i + q → F j = G j) → apS F q i = apS G q i := by
  intro q
  induction q with
  | zero => intro i _; rfl
  | succ q ih =>
    intro i h
    simp only [apS, h i (by omega) (by omega), ih (i + 1) fun j a b => h j (by omega) (by omega)]
theorem apS_filter {F : Nat → List (List Nat)} {p : List Nat → Bool} : ∀ q i, (apS F q i).filter p = apS (fun j => (F j).filter p) q i := by
  intro q
  induction q with
  | zero => intro i; rfl
  | succ q ih => intro i; simp only [apS, List.filter_append, ih]
theorem apS_map {F : Nat → List (List Nat)} {f : List Nat → List Nat} : ∀ q i, (apS F q i).map f = apS (fun j => (F j).map f) q i := by
  intro q
  induction q with
  | zero => intro i; rfl
  | succ q ih => intro i; simp only [apS, List.map_append, ih]
def nx0 (M i : Nat) : Bool := !M.testBit i
/-- a way on, as a test -/
def pthB (nx : Nat → Nat → Bool) : Nat → List Nat → Bool
  | _, [] => true
  | M, i :: O => nx M i && pthB nx (M ||| 2 ^ i) O
theorem ords_filter {nx : Nat → Nat → Bool} (hnx : ∀ M i, nx M i = true → M.testBit i = false) {n : Nat} : ∀ k M, ords nx n k M = (ords nx0 n k M).filter (pthB nx M) := by
  intro k
  induction k with
  | zero => intro M; rfl
  | succ k ih =>
    intro M
    simp only [ords, apS_filter]
    refine apS_congr n 0 fun i _ _ => ?_
    cases h : nx M i
    · have hf : ∀ X : List (List Nat), (X.map (i :: ·)).filter (pthB nx M) = [] := by
        intro X
        rw [List.filter_map]
        have e : (pthB nx M ∘ fun x => i :: x) = fun _ => false := by funext O; simp only [Function.comp, pthB, h, Bool.false_and]
        rw [e]
        simp
      cases nx0 M i
      · rfl
      · exact (hf _).symm
    · have h0 : nx0 M i = true := by unfold nx0; rw [hnx M i h]; rfl
      rw [h0]
      simp only [cond_true]
      rw [List.filter_map, ih]
      have e : (pthB nx M ∘ fun x => i :: x) = pthB nx (M ||| 2 ^ i) := by funext O; simp only [Function.comp, pthB, h, Bool.true_and]
      rw [e]
theorem pthB_iff {nx : Nat → Nat → Bool} {n : Nat} : ∀ (O : List Nat) (M : Nat), pth nx n M O ↔ (∀ x, x ∈ O → x < n) ∧ pthB nx M O = true := by
  intro O
  induction O with
  | nil => intro M; simp [pth, pthB]
  | cons i O ih =>
    intro M
    simp only [pth, pthB, ih, Bool.and_eq_true, List.mem_cons, forall_eq_or_imp]
    constructor
    · rintro ⟨a, b, c, d⟩; exact ⟨⟨a, c⟩, b, d⟩
    · rintro ⟨⟨a, c⟩, b, d⟩; exact ⟨a, b, c, d⟩
/-- the set of some days -/
def mkS (B : List Nat) : Nat := B.foldl (fun M i => M ||| 2 ^ i) 0
theorem mkS_app {B : List Nat} {i : Nat} : mkS (B ++ [i]) = mkS B ||| 2 ^ i := by simp [mkS]
theorem foldl_bit {t : Nat} : ∀ (B : List Nat) (M : Nat), (B.foldl (fun M i => M ||| 2 ^ i) M).testBit t = (M.testBit t || decide (t ∈ B)) := by
  intro B
  induction B with
  | nil => intro M; simp
  | cons i B ih =>
    intro M
    rw [List.foldl_cons, ih, bit_or, Bool.or_assoc]
    congr 1
    by_cases h : i = t
    · subst h; simp
    · have h' : ¬ t = i := fun e => h e.symm
      simp [h, h']
theorem mkS_bit {B : List Nat} {t : Nat} : (mkS B).testBit t = decide (t ∈ B) := by unfold mkS; rw [foldl_bit, Nat.zero_testBit, Bool.false_or]
theorem ucL_eq {B : List Nat} {i : Nat} : ∀ k j u, j + k = B.length → ucL B i k j u = (u || decide (i ∈ B.drop j)) := by
  intro k
  induction k with
  | zero => intro j u h; rw [List.drop_eq_nil_of_le (by omega)]; simp [ucL]
  | succ k ih =>
    intro j u h
    have hj : j < B.length := by omega
    have e : B.getD j 0 = B[j] := by simp [hj]
    unfold ucL
    rw [ih (j + 1) _ (by omega), List.drop_eq_getElem_cons hj, e, Bool.or_assoc]
    congr 1
    by_cases h : B[j] = i
    · rw [decide_eq_true h, Bool.true_or]
      exact (decide_eq_true (List.mem_cons.2 (.inl h.symm))).symm
    · have h' : ¬ i = B[j] := fun e => h e.symm
      rw [decide_eq_false h, Bool.false_or]
      exact decide_eq_decide.2 ⟨fun hm => List.mem_cons.2 (.inr hm), fun hm => (List.mem_cons.1 hm).resolve_left h'⟩
theorem oFL_eq {l : Nat → Int × Int} {n : Nat} : ∀ k B, oFL l n k B = ((ords nx0 n k (mkS B)).map (B ++ ·)).filter (fun O => risL l (ntAt O) n 0 0) := by
  intro k
  induction k with
  | zero =>
    intro B
    simp only [oFL, ords, List.map_cons, List.map_nil, List.append_nil, List.filter_cons, List.filter_nil]
    cases risL l (ntAt B) n 0 0 <;> rfl
  | succ k ih =>
    intro B
    simp only [oFL, ords, apS_map, apS_filter]
    refine apS_congr n 0 fun i _ _ => ?_
    unfold gF
    rw [ucL_eq _ _ _ (by omega), List.drop_zero, Bool.false_or]
    by_cases h : i ∈ B
    · have h0 : nx0 (mkS B) i = false := by simp [nx0, mkS_bit, h]
      simp [h, h0]
    · have h0 : nx0 (mkS B) i = true := by simp [nx0, mkS_bit, h]
      simp only [h, decide_false, cond_false, h0, cond_true, ih, mkS_app, List.map_map]
      congr 2
      funext O
      simp
theorem perm_of {O : List Nat} {n : Nat} (h1 : O.Nodup) (h2 : ∀ x, x ∈ O → x < n) (h3 : O.length = n) : O.Perm (List.range n) :=
  (List.perm_ext_iff_of_nodup h1 List.nodup_range).2 fun a => ⟨fun h => List.mem_range.2 (h2 a h), fun h => full_mem h1 h2 h3 (List.mem_range.1 h)⟩
theorem nx0_pth {n : Nat} : ∀ (O : List Nat) (M : Nat), pth nx0 n M O → (∀ x, x ∈ O → x < n ∧ M.testBit x = false) ∧ O.Nodup := by
  intro O
  induction O with
  | nil => intro M _; simp
  | cons i O ih =>
    rintro M ⟨h1, h2, h3⟩
    obtain ⟨g1, g2⟩ := ih _ h3
    have hb : M.testBit i = false := by simpa [nx0] using h2
    refine ⟨fun x hx => ?_, List.nodup_cons.2 ⟨fun hm => ?_, g2⟩⟩
    · rcases List.mem_cons.1 hx with rfl | hx
      · exact ⟨h1, hb⟩
      · have := g1 x hx
        rw [bit_or, Bool.or_eq_false_iff] at this
        exact ⟨this.1, this.2.1⟩
    · have := (g1 i hm).2
      rw [bit_or] at this
      simp at this
theorem all_ords {A : List (Int × Int)} {n : Nat} (H : OkM A) (hA : A.length = n) (n5 : n ≤ 5) : oFL (spAt A) n n [] = ords (nxB (spAt A) n) n n 0 := by
  rw [oFL_eq, ords_filter (nx := nxB (spAt A) n) (fun M i h => nxB_bit h)]
  have e : (fun O : List Nat => ([] : List Nat) ++ O) = id := by funext O; rfl
  rw [e, List.map_id]
  show List.filter _ (ords nx0 n n 0) = _
  refine List.filter_congr fun O hO => ?_
  obtain ⟨hl, hp⟩ := (ords_mem _ _ _).1 hO
  obtain ⟨g1, g2⟩ := nx0_pth _ _ hp
  have S : MO A O n := ⟨H, hA, hl, n5, perm_of g2 (fun x hx => (g1 x hx).1) hl⟩
  have hq : ∀ i, i < n → quiet (spAt A) i i = false := quiet_self H hA
  have h1 : pthB (nxB (spAt A) n) 0 O = true ↔ O ∈ ords (nxB (spAt A) n) n n 0 := by
    rw [ords_mem, pthB_iff]
    exact ⟨fun h => ⟨hl, fun x hx => (g1 x hx).1, h⟩, fun h => h.2.2⟩
  rw [Bool.eq_iff_iff, h1, full_iff hq, ris_eq S]
  constructor
  · intro h
    refine ⟨hl, fun x hx => (g1 x hx).1, g2, List.pairwise_iff_getElem.2 fun i j hi hj hij => ?_⟩
    have := h i j hij (by omega)
    unfold qt at this
    simpa [hi, hj] using this
  · rintro ⟨_, _, _, h⟩ i j hij hj
    have := List.pairwise_iff_getElem.1 h i j (by omega) (by omega) hij
    unfold qt
    simpa [show i < O.length by omega, show j < O.length by omega] using this
theorem apS_get {F : Nat → List (List Nat)} {O : List Nat} : ∀ q i K, (apS F q i)[K]? = some O → ∃ j K', i ≤ j ∧ j < i + q ∧ (F j)[K']? = some O ∧ K = cS (fun j => (F j).length) (j - i) i 0 + K' := by
  intro q
  induction q with
  | zero => intro i K h; simp [apS] at h
  | succ q ih =>
    intro i K h
    simp only [apS] at h
    by_cases hk : K < (F i).length
    · rw [List.getElem?_append_left hk] at h
      exact ⟨i, K, by omega, by omega, h, by simp [cS]⟩
    · rw [List.getElem?_append_right (by omega)] at h
      obtain ⟨j, K', h1, h2, h3, h4⟩ := ih (i + 1) _ h
      refine ⟨j, K', by omega, by omega, h3, ?_⟩
      rw [show j - i = (j - (i + 1)) + 1 by omega]
      simp only [cS]
      rw [cS_add (j - (i + 1)) (i + 1) (0 + (F i).length)]
      omega
section
variable {nx : Nat → Nat → Bool} (hnx : ∀ M i, nx M i = true → M.testBit i = false) {n : Nat}
def FO (nx : Nat → Nat → Bool) (n k M i : Nat) : List (List Nat) := cond (nx M i) ((ords nx n k (M ||| 2 ^ i)).map (i :: ·)) []
include hnx
theorem FO_len {k M i : Nat} (hM : cntU n M = k + 1) (hi : i < n) : (FO nx n k M i).length = fN nx n M i := by
  unfold FO fN
  cases h : nx M i
  · rfl
  · simp only [cond_true, List.length_map, ords_len]
    unfold gR
    have := cntU_lt (hnx M i h) n hi
    rw [show cntU n (M ||| 2 ^ i) = k by omega]
theorem nmO_at {o : Nat → Int} : ∀ (k M K : Nat) (O : List Nat) (p a : Nat), cntU n M = k → (ords nx n k M)[K]? = some O → (∀ j, j < k → o (p + j) = ntAt O j) → nmO nx n o k p M a = a + K := by
  intro k
  induction k with
  | zero =>
    intro M K O p a hM hO ho
    have hK : K = 0 := by
      have := (List.getElem?_eq_some_iff.1 hO).1
      simp [ords] at this; exact this
    subst hK; rfl
  | succ k ih =>
    intro M K O p a hM hO ho
    obtain ⟨j, K', h1, h2, h3, h4⟩ := apS_get n 0 K hO
    have hx : nx M j = true := by
      cases h : nx M j
      · rw [h] at h3; simp at h3
      · rfl
    rw [hx, cond_true, List.getElem?_map] at h3
    cases hP : (ords nx n k (M ||| 2 ^ j))[K']? with
    | none => rw [hP] at h3; cases h3
    | some P =>
      rw [hP] at h3
      simp only [Option.map_some, Option.some.injEq] at h3
      subst h3
      have hc := cntU_lt (hnx M j hx) n (by omega)
      have h0 := ho 0 (by omega)
      rw [Nat.add_zero] at h0
      have hoj : (o p).toNat = j := by rw [h0]; rfl
      simp only [nmO, hoj]
      rw [ih (M ||| 2 ^ j) K' P (p + 1) _ (by omega) hP (fun t ht => by
        rw [show p + 1 + t = p + (t + 1) by omega, ho (t + 1) (by omega)]
        rfl), cS_add, h4, Nat.sub_zero]
      rw [cS_congr (f := fun j => (cond (nx M j) ((ords nx n k (M ||| 2 ^ j)).map (j :: ·)) []).length) (g := fN nx n M) j 0 0 fun t _ ht => FO_len (nx := nx) hnx (k := k) hM (by omega)]
      omega
theorem atI_get {k M : Nat} (hM : cntU n M = k + 1) : ∀ (q i v x v' : Nat), i + q = n → atI nx n M q i v = some (x, v') → (apS (FO nx n k M) q i)[v]? = (FO nx n k M x)[v']? := by
  intro q
  induction q with
  | zero => intro i v x v' _ h; cases h
  | succ q ih =>
    intro i v x v' hi h
    have hl := FO_len (nx := nx) hnx hM (show i < n by omega)
    simp only [atI] at h
    simp only [apS]
    by_cases hx : nx M i = true
    · rw [if_pos hx] at h
      have hf : fN nx n M i = gR nx n (M ||| 2 ^ i) := by unfold fN; rw [hx, cond_true]
      rw [hf] at hl
      by_cases hv : v < gR nx n (M ||| 2 ^ i)
      · rw [if_pos hv] at h
        cases h
        rw [List.getElem?_append_left (by omega)]
      · rw [if_neg hv] at h
        rw [List.getElem?_append_right (by omega), hl]
        exact ih _ _ _ _ (by omega) h
    · rw [if_neg hx] at h
      have hf : fN nx n M i = 0 := by unfold fN; rw [Bool.not_eq_true] at hx; rw [hx, cond_false]
      rw [List.getElem?_append_right (by omega), hl, hf, Nat.sub_zero]
      exact ih _ _ _ _ (by omega) h
theorem atO_get : ∀ (k M v : Nat), cntU n M = k → v < gR nx n M → (ords nx n k M)[v]? = some (atO nx n k M v) := by
  intro k
  induction k with
  | zero =>
    intro M v hM hv
    unfold gR at hv
    rw [hM] at hv
    obtain rfl : v = 0 := by simp [cR] at hv; exact hv
    rfl
  | succ k ih =>
    intro M v hM hv
    obtain ⟨x, v', h1, h2, h3, h4, h5⟩ := atI_some (nx := nx) (n := n) (M := M) n 0 v (by rw [← gR_sum hnx hM]; exact hv)
    have hc := cntU_lt (hnx M x h4) n (by omega)
    simp only [atO, h1]
    show (apS (FO nx n k M) n 0)[v]? = _
    rw [atI_get hnx hM n 0 v x v' (by omega) h1]
    unfold FO
    rw [h4, cond_true, List.getElem?_map, ih _ _ (by omega) h5]
    rfl
end
theorem sel_get {l : Nat → Int × Int} {n k M : Nat} {O : List Nat} : ∀ (q i x : Nat), selK l n M q i = some x → (FO (nxB l n) n k M x)[0]? = some O → (apS (FO (nxB l n) n k M) q i)[0]? = some O := by
  intro q
  induction q with
  | zero => intro i x h; cases h
  | succ q ih =>
    intro i x h hO
    simp only [selK] at h
    simp only [apS]
    by_cases hx : nxB l n M i = true
    · rw [if_pos hx] at h
      cases h
      have := (List.getElem?_eq_some_iff.1 hO).1
      rw [List.getElem?_append_left this, hO]
    · rw [if_neg hx] at h
      have e : FO (nxB l n) n k M i = [] := by unfold FO; rw [Bool.not_eq_true] at hx; rw [hx]; rfl
      rw [e, List.nil_append]
      exact ih _ _ h hO
theorem fs_get {l : Nat → Int × Int} {n : Nat} (hl : ∀ i, i < n → (l i).1 ≤ (l i).2) : ∀ (k M : Nat), cntU n M = k → (ords (nxB l n) n k M)[0]? = some (fsL l n k M) := by
  intro k
  induction k with
  | zero => intro M _; rfl
  | succ k ih =>
    intro M hM
    obtain ⟨r, h1, h2, h3, h4⟩ := sel_succ hl hM
    simp only [fsL, h1]
    have hx : nxB l n M r = true := (selK_in n 0 r h1).2.2
    refine sel_get n 0 r h1 ?_
    unfold FO
    rw [hx, cond_true, List.getElem?_map, ih _ h4]
    rfl
end Go.Proofs.Ytfccmddkblbeoaa.rk
namespace Go.Proofs.Ytfccmddkblbeoaa.rk
open Go.GE
set_option linter.unusedVariables false
set_option linter.unusedSimpArgs false
set_option linter.unusedSectionVars false
set_option maxRecDepth 100000
set_option maxHeartbeats 4000000
/-- all orders: no day is told yet -/
theorem k36n {cs : List Value} {l : Nat → Int × Int} {n b : Nat} {h : List Blk} (hb : h[b]? = some (.cells cs 2 true true)) (hc : SpC cs 0 n l) (hn : n ≤ 5) (h1 : 1 ≤ n) :
    callH LL 36 [sl b 0 n n, .slice none 0 0] h = some ⟨sl (h.length + 1) 0 (oFL l n n []).length (oFL l n n []).length, h ++ .cells [] 1 true true :: lsB (h.length + 2) (oFL l n n []) :: (oFL l n n []).map nB, [b], []⟩ := by
  have hlt := (List.getElem?_eq_some_iff.1 hb).1
  have hkk := k36 hc hn n [] (by simp) (by simp)
  rcases hkk with H | ⟨_, _, h0⟩
  · have g := H (h ++ [.cells [] 1 true true]) b h.length (by rw [List.getElem?_append_left hlt]; exact hb) (by simp [nm]) (by omega)
    rw [List.length_append] at g
    have e1 : fixA [⟨0, 0, 2, true⟩, ⟨1, 0, 1, true⟩] [sl b 0 n n, .slice none 0 0] h = ([sl b 0 n n, sl h.length 0 0 0], h ++ [.cells [] 1 true true]) := rfl
    have e2 : fixA [⟨0, 0, 2, true⟩, ⟨1, 0, 1, true⟩] [sl b 0 n n, sl h.length 0 0 0] (h ++ [.cells [] 1 true true]) = ([sl b 0 n n, sl h.length 0 0 0], h ++ [.cells [] 1 true true]) := rfl
    have r := callH_fix (E := LL) (f := 36) (K := ⟨[], [⟨0, 0, 2, true⟩, ⟨1, 0, 1, true⟩]⟩) (by kernel_rfl) e1 e2 (by simp) g
    rw [r]
    have hf : [b, h.length].filter (fun b => Nat.blt b h.length) = [b] := by simp [List.filter_cons, nblt, hlt]
    rw [hf]
    simp
  · omega
/-- the heap of a law: the argument, the month, all orders -/
theorem sweep_all {K0 : Blk} {A : List Value} {R : List Blk} {σ σ' : Tm} {M : List (List Nat)} {N p : Nat} (hm : (K0 :: R)[1]? = some (.cells A 2 true true)) (hN : (K0 :: R)[N]? = some (lsB p M)) (hM : ∀ j O, M[j]? = some O → (K0 :: R)[p + j]? = some (nB O))
    (h1 : 2 ≤ N) (h2 : N < p) (h5 : M.length ≤ 50000) (hp : ptrT σ = [1, N]) (hσ : ∀ f : Nat → Option Nat, f 1 = some 1 → f N = some 2 → renT f σ = some σ') :
    sweep 1 ⟨σ, K0 :: R, []⟩ = some ⟨σ', K0 :: .cells A 2 true true :: lsB 3 M :: M.map nB, []⟩ := by
  have hr : reach (K0 :: R) 1 reachN (ptrT σ) [] = 1 :: N :: rgN p M.length := by
    rw [hp, show reachN = 99998 + 1 + 1 from rfl, reach_new (by omega) (by simp) hm, ptrB_flat, List.nil_append, reach_new (by omega) (by simp; omega) hN, ptrB_non, slS_ptr, reach_rg _ _ _ _ (by omega) (by omega) ?_, reach_nil]
    · simp
    · intro j a b
      obtain ⟨i, rfl⟩ : ∃ i, j = p + i := ⟨j - p, by omega⟩
      refine ⟨⟨_, hM i M[i] (List.getElem?_eq_getElem (by omega)), ptrB_flat⟩, ?_⟩
      simp; omega
  generalize hδ : 1 :: N :: rgN p M.length = δ at hr
  have f1 : rnm 1 δ 1 = some 1 := by subst hδ; rfl
  have fN : rnm 1 δ N = some 2 := by
    subst hδ
    unfold rnm
    rw [nblt, decide_eq_false (by omega), cond_false, idx_cons, nbeq, decide_eq_false (by omega), idxC_f, idx_cons, nbeq, decide_eq_true rfl, idxC_t]
    rfl
  have fM : ∀ j, j < M.length → rnm 1 δ (p + j) = some (3 + j) := by
    intro j hj
    subst hδ
    have := idx_rgN (r := []) M.length p j hj
    rw [List.append_nil] at this
    unfold rnm
    rw [nblt, decide_eq_false (by omega), cond_false, idx_cons, nbeq, decide_eq_false (by omega), idxC_f, idx_cons, nbeq, decide_eq_false (by omega), idxC_f, this]
    simp only [Option.map_some]; congr 1; omega
  have hb : optAll (pickR 1 δ (K0 :: R)) δ = some (.cells A 2 true true :: lsB 3 M :: M.map nB) := by
    have e1 : pickR 1 δ (K0 :: R) 1 = some (.cells A 2 true true) := by unfold pickR; rw [hm]; rfl
    have e2 : pickR 1 δ (K0 :: R) N = some (lsB 3 M) := by
      unfold pickR
      rw [hN]
      simp only [renB_non]
      rw [slS_ren M p 3 fM]
      rfl
    have e3 := pick_rg (base := 1) (δ := δ) M p hM
    rw [show optAll (pickR 1 δ (K0 :: R)) δ = optAll (pickR 1 δ (K0 :: R)) (1 :: N :: rgN p M.length) by rw [hδ]]
    simp only [optAll, e1, e2, e3]
  rw [sweep_to hr (hσ _ f1 fN) hb]
  rfl
section
variable (K0 : Blk) {A : List (Int × Int)} {n : Nat} {M : List (List Nat)} (H : OkM A) (hA : A.length = n) (n5 : n ≤ 5) (hM : M = ords (nxB (spAt A) n) n n 0) (hk : M.length ≤ 5000)
include H hA n5 hM hk
theorem ord_MO {O : List Nat} (h : O ∈ M) : MO A O n ∧ posS (spAt A) n (ntAt O) n = 0 := by
  subst hM
  obtain ⟨h1, h2, h3, h4⟩ := (full_iff (quiet_self H hA)).1 h
  have S : MO A O n := ⟨H, hA, h1, n5, perm_of h3 h2 h1⟩
  refine ⟨S, pos_eq S fun i j hij hj => ?_⟩
  have := List.pairwise_iff_getElem.1 h4 i j (by omega) (by omega) hij
  unfold qt
  simpa [show i < O.length by omega, show j < O.length by omega] using this
theorem ord_num {O : List Nat} {i : Nat} (h : M[i]? = some O) (h1 : 1 ≤ n) : numV (spAt A) n (ntAt O) n = i ∧ numE (spAt A) n (ntAt O) n = 0 := by
  obtain ⟨S, hp⟩ := ord_MO H hA n5 hM hk (List.mem_of_getElem? h)
  have hc := cnt_ok H hA n5
  have e : numE (spAt A) n (ntAt O) n = 0 := by unfold numE; rw [if_pos hc.1]; exact hp
  refine ⟨?_, e⟩
  unfold numV
  rw [if_pos e]
  subst hM
  rw [nmO_at (fun M i h => nxB_bit h) n 0 i O 0 0 cntU_zero h (fun j _ => by rw [Nat.zero_add]), Nat.zero_add]
theorem ord_at {O : List Nat} {i : Nat} (h : M[i]? = some O) : atV (spAt A) n i = O ∧ atE (spAt A) n i = 0 := by
  have hc := cnt_ok H hA n5
  have hi := (List.getElem?_eq_some_iff.1 h).1
  have hl : cntV (spAt A) n = M.length := by rw [hc.2, hM, ords_len]
  have e : atE (spAt A) n i = 0 := by
    unfold atE
    rw [if_pos hc.1, hl, if_pos]
    simp; omega
  refine ⟨?_, e⟩
  unfold atV
  rw [if_pos e, Int.toNat_natCast]
  subst hM
  have := atO_get (nx := nxB (spAt A) n) (fun M i h => nxB_bit h) (n := n) n 0 i cntU_zero (by rw [gR_zero, ← ords_len]; exact hi)
  rw [h] at this
  exact (Option.some.inj this).symm
theorem ord_out : atE (spAt A) n M.length = 1 ∧ atV (spAt A) n M.length = [] ∧ atE (spAt A) n (-1) = 1 ∧ atV (spAt A) n (-1) = [] := by
  have hc := cnt_ok H hA n5
  have hl : cntV (spAt A) n = M.length := by rw [hc.2, hM, ords_len]
  have e : atE (spAt A) n M.length = 1 := by
    unfold atE
    rw [if_pos hc.1, hl, if_neg]
    simp; omega
  have e2 : atE (spAt A) n (-1) = 1 := by
    unfold atE
    rw [if_pos hc.1, if_neg]
    simp
  refine ⟨e, ?_, e2, ?_⟩
  · unfold atV; rw [if_neg (by omega)]
  · unfold atV; rw [if_neg (by omega)]
end
end Go.Proofs.Ytfccmddkblbeoaa.rk
namespace Go.Proofs.Ytfccmddkblbeoaa.rk
open Go.GE
set_option linter.unusedVariables false
set_option linter.unusedSimpArgs false
set_option linter.unusedSectionVars false
set_option maxRecDepth 100000
set_option maxHeartbeats 4000000
attribute [local simp] runOps_nil runOps_cons runOpsF_nil runOpsF_cons fstS_some fstF_some opStep_eq want_none oStep_true oStep_false fin_pure fin_read fin_alloc fin_write storeB wrN cellV addWr o_move o_assign o_pick o_alloc o_box o_load o_store o_nilCheck o_bin o_un o_extract o_callV o_callB o_callI callV_f callV_y callV_fc o_makeFunc partsA Instr.fill builtin_len builtin_max2 bin_add bin_sub bin_mul bin_quo bin_rem bin_lss bin_leq bin_gtr bin_geq bin_eql bin_neq un_neg un_not bin_shr bin_shl wrap_u64_id opd opds optAll putO nbeq nblt constOk isC ops sub cl cr co bodyOf thenS_normal thenS_ret thenS_exit thenS_goto afterN_normal afterN_ret afterN_exit afterN_goto condS_true condS_false blockS_normal blockS_ret blockS_exit blockS_goto headS normS normK_eq fixS_nil fixS_cons fix1 fixV emptyB keepO_nil keepO_cons roundC_normal roundC_exit roundC_ret roundC_goto sweep_eq sweepD rnm pickR pickW rootsB ptrT renT ptrFn renFn ptrB_flat ptrB_non renB_flat renB_non plainS_some drawS_some fpsOk disj unord range' dropTo enumT undef wrap_i64_id Value.cells mkCells ptrTo scal cellsAt rdN endS_ret resultsA Option.bind_some tupV finish reachN dep ptrL_eq ptrL renL_eq renL ptrV_bool ptrV_int ptrV_string ptrV_nilFunc ptrV_nilIface ptrV_nilPtr ptrV_ptr ptrV_nilSl ptrV_sl ptrV_iface ptrV_agg ptrV_tuple ptrV_func renV_bool renV_int renV_string renV_nilFunc renV_nilIface renV_nilPtr renV_ptr renV_nilSl renV_sl renV_iface renV_agg renV_tuple renV_func gotoS_goto gotoS_normal gotoS_exit gotoS_ret skip_seq sliceE bnd bndHi intOf optOpd keepT_nil keepT_cons keepC_t keepC_f lk_nil lk_cons lkC_t lkC_f has_nil has_cons hasC_t hasC_f rep_nil rep_cons repC_t repC_f put_eq putC_t putC_f mem_nil mem_cons memC_t memC_f idx_nil idx_cons idxC_t idxC_f reach_nil reachP_cons reachQ_t reachQ_f ptrB_dead renB_dead ins_eq
attribute [local simp] n6_1s n6_3s n6_5s n6_7s n6_9s n6_12s n6_15s n6_16s n6_14s n6_17s n6_13s n6_11s n6_20s n6_24s n6_27s n6_28s n6_26s n6_32s n6_34s n6_36s n6_38s n6_41s n6_42s n6_40s n6_43s n6_39s n6_37s n6_35s n6_33s n6_31s n6_30s n6_44s n6_29s n6_25s n6_23s n6_22s n6_22g n6_21s n6_19s n6_46s n6_48s n6_50s n6_51s n6_49s n6_47s n6_45s n6_18s n6_10s n6_8s n6_6s n6_4s n6_2s n6_0s Try.f6
theorem sweep_one {K0 : Blk} {A : List Value} {R : List Blk} {σ σ' : Tm} (hp : ptrT σ = [1]) (hσ : ∀ f : Nat → Option Nat, f 1 = some 1 → renT f σ = some σ') : sweep 1 ⟨σ, K0 :: .cells A 2 true true :: R, []⟩ = some ⟨σ', [K0, .cells A 2 true true], []⟩ := by
  have hr : reach (K0 :: .cells A 2 true true :: R) 1 reachN (ptrT σ) [] = [1] := by
    rw [hp, show reachN = 99999 + 1 from rfl, reach_new (by omega) (by simp) rfl, ptrB_flat, List.nil_append, reach_nil]; rfl
  rw [sweep_to hr (hσ _ rfl) rfl]
  rfl
section
variable (K0 : Blk) {A : List (Int × Int)} {n : Nat} {M : List (List Nat)} (H : OkM A) (hA : A.length = n) (n5 : n ≤ 5) (hM : M = ords (nxB (spAt A) n) n n 0) (hk : M.length ≤ 5000) (h1 : 1 ≤ n)
include H hA n5 hM hk h1
theorem l6 : ∀ (q i : Nat), i + q = M.length →
    lpB Try.prog LL ⟨6, 116, 1, none⟩ n6_22 n6_23 ⟨[(3, sl 1 0 n n), (5, iv M.length), (53, sl 2 0 M.length M.length), (54, iv M.length), (55, iv i)], K0 :: spB A :: lsB 3 M :: M.map nB, []⟩ =
      some (.exit 0, ⟨[(3, sl 1 0 n n), (5, iv M.length)], [K0, spB A], []⟩) := by
  intro q
  have sE : ∀ R, sweep 1 ⟨[(3, sl 1 0 n n), (5, iv M.length)], K0 :: spB A :: R, []⟩ = some ⟨[(3, sl 1 0 n n), (5, iv M.length)], [K0, spB A], []⟩ :=
    fun R => sweep_one (A := A.flatMap spG) rfl (fun f e1 => by simp [renT, renV_sl, renV_int, dep, e1])
  induction q with
  | zero =>
    intro i hi
    obtain rfl : i = M.length := by omega
    simp only [spB, lsB, nB] at sE ⊢
    generalize M.map (fun L => Blk.cells (nm L) 1 true true) = Q at *
    generalize slS 3 M = X at *
    generalize A.flatMap spG = N at *
    rw [lpB_eq]
    simp (maxSteps := 1000000) (disch := first | omega | decide | assumption | simp [scal]) [lenA_sl lk_49, o_indexAddrS es_49, loadA_eq ia_24, want_some q6_12g2, want_some q6_12g6, want_some q6_12g12, want_some q6_12g16, want_some q6_38g2, want_some q6_38g6, want_some q6_38g11, want_some q6_38g17, want_some q6_50g2, want_some q6_50g6, -sweep_eq, sE]
  | succ q ih =>
    intro i hi
    have e0 : i < M.length := by omega
    have e1 : (i : Int) < M.length := by omega
    obtain ⟨O, hO⟩ : ∃ O, M[i]? = some O := ⟨M[i], List.getElem?_eq_getElem e0⟩
    obtain ⟨S, hpos⟩ := ord_MO H hA n5 hM hk (List.mem_of_getElem? hO)
    obtain ⟨n1, n2⟩ := ord_num H hA n5 hM hk hO h1
    obtain ⟨t1, t2⟩ := ord_at H hA n5 hM hk hO
    have hOl := S.lo
    have sA := spAt_C A
    rw [hA] at sA
    have sO := nm_C O
    rw [hOl] at sO
    have n60 : n ≤ 60 := by omega
    have p1 := slS_get M 3 i O hO
    rw [hOl] at p1
    have hg : ∀ R : List Blk, (K0 :: spB A :: lsB 3 M :: (M.map nB ++ R))[3 + i]? = some (nB O) := fun R => by
      rw [show 3 + i = i + 1 + 1 + 1 by omega]
      simp only [List.getElem?_cons_succ]
      exact map_left hO
    have hg0 : (K0 :: spB A :: lsB 3 M :: M.map nB)[3 + i]? = some (nB O) := by have := hg []; rwa [List.append_nil] at this
    have hlen : (K0 :: spB A :: lsB 3 M :: M.map nB).length = M.length + 3 := by simp
    have a25 := k25 1 0 n n (3 + i) 0 n n (h := K0 :: spB A :: lsB 3 M :: M.map nB) rfl hg0 (by omega) sA sO n60 n60
    rw [n1, n2] at a25
    have a27 := k27 1 0 n n (h := K0 :: spB A :: lsB 3 M :: M.map nB) rfl sA n60 i
    rw [t1, t2, hOl, hlen] at a27
    have a21 := k21 (L := O) (M.length + 3) (3 + i) (h := K0 :: spB A :: lsB 3 M :: (M.map nB ++ [nB O])) (by
      simp only [List.getElem?_cons_succ]
      rw [List.getElem?_append_right (by simp)]
      simp) (hg _) (by omega) (by omega)
    rw [hOl] at a21
    have a37 := k37 1 0 n n (3 + i) 0 n n (h := K0 :: spB A :: lsB 3 M :: (M.map nB ++ [nB O])) rfl (hg _) (by omega) sA sO n60
    rw [hpos] at a37
    have sN := sweep_all (K0 := K0) (A := A.flatMap spG) (R := spB A :: lsB 3 M :: (M.map nB ++ [nB O])) (M := M) (N := 2) (p := 3) (σ := [(3, sl 1 0 n n), (5, iv M.length), (53, sl 2 0 M.length M.length), (54, iv M.length), (55, iv ((i : Int) + 1))]) (σ' := [(3, sl 1 0 n n), (5, iv M.length), (53, sl 2 0 M.length M.length), (54, iv M.length), (55, iv ((i : Int) + 1))])
      rfl rfl (fun j O' hj => by
        rw [show 3 + j = j + 1 + 1 + 1 by omega]
        simp only [List.getElem?_cons_succ]
        exact map_left hj) (by omega) (by omega) (by omega) rfl (fun f f1 f2 => by simp [renT, renV_sl, renV_int, dep, f1, f2])
    have this := ih (i + 1) (by omega)
    simp only [cast1] at this
    clear ih hg hg0 hlen sO sA hO n1 n2 t1 t2 S hpos hM sE
    simp only [spB, lsB, nB, List.cons_append] at a25 a27 a21 a37 sN this ⊢
    generalize M.map (fun L => Blk.cells (nm L) 1 true true) = Q at *
    generalize slS 3 M = X at *
    generalize A.flatMap spG = N at *
    generalize nm O = Z at *
    generalize 3 + i = oi at *
    generalize M.length = k at *
    rw [lpB_eq]
    simp (maxSteps := 1000000) (disch := first | omega | decide | assumption | simp [scal]) [lenA_sl lk_49, o_indexAddrS es_49, loadA_eq ia_24, want_some q6_12g2, want_some q6_12g6, want_some q6_12g12, want_some q6_12g16, want_some q6_38g2, want_some q6_38g6, want_some q6_38g11, want_some q6_38g17, want_some q6_50g2, want_some q6_50g6, -sweep_eq, e0, e1, p1, a25, a27, a21, a37, sN, this]
end
end Go.Proofs.Ytfccmddkblbeoaa.rk
namespace Go.Proofs.Ytfccmddkblbeoaa.rk
open Go.GE
set_option linter.unusedVariables false
set_option linter.unusedSimpArgs false
set_option linter.unusedSectionVars false
set_option maxRecDepth 100000
set_option maxHeartbeats 4000000
attribute [local simp] runOps_nil runOps_cons runOpsF_nil runOpsF_cons fstS_some fstF_some opStep_eq want_none oStep_true oStep_false fin_pure fin_read fin_alloc fin_write storeB wrN cellV addWr o_move o_assign o_pick o_alloc o_box o_load o_store o_nilCheck o_bin o_un o_extract o_callV o_callB o_callI callV_f callV_y callV_fc o_makeFunc partsA Instr.fill builtin_len builtin_max2 bin_add bin_sub bin_mul bin_quo bin_rem bin_lss bin_leq bin_gtr bin_geq bin_eql bin_neq un_neg un_not bin_shr bin_shl wrap_u64_id opd opds optAll putO nbeq nblt constOk isC ops sub cl cr co bodyOf thenS_normal thenS_ret thenS_exit thenS_goto afterN_normal afterN_ret afterN_exit afterN_goto condS_true condS_false blockS_normal blockS_ret blockS_exit blockS_goto headS normS normK_eq fixS_nil fixS_cons fix1 fixV emptyB keepO_nil keepO_cons roundC_normal roundC_exit roundC_ret roundC_goto sweep_eq sweepD rnm pickR pickW rootsB ptrT renT ptrFn renFn ptrB_flat ptrB_non renB_flat renB_non plainS_some drawS_some fpsOk disj unord range' dropTo enumT undef wrap_i64_id Value.cells mkCells ptrTo scal cellsAt rdN endS_ret resultsA Option.bind_some tupV finish reachN dep ptrL_eq ptrL renL_eq renL ptrV_bool ptrV_int ptrV_string ptrV_nilFunc ptrV_nilIface ptrV_nilPtr ptrV_ptr ptrV_nilSl ptrV_sl ptrV_iface ptrV_agg ptrV_tuple ptrV_func renV_bool renV_int renV_string renV_nilFunc renV_nilIface renV_nilPtr renV_ptr renV_nilSl renV_sl renV_iface renV_agg renV_tuple renV_func gotoS_goto gotoS_normal gotoS_exit gotoS_ret skip_seq sliceE bnd bndHi intOf optOpd keepT_nil keepT_cons keepC_t keepC_f lk_nil lk_cons lkC_t lkC_f has_nil has_cons hasC_t hasC_f rep_nil rep_cons repC_t repC_f put_eq putC_t putC_f mem_nil mem_cons memC_t memC_f idx_nil idx_cons idxC_t idxC_f reach_nil reachP_cons reachQ_t reachQ_f ptrB_dead renB_dead ins_eq
attribute [local simp] n6_1s n6_3s n6_5s n6_7s n6_9s n6_12s n6_15s n6_16s n6_14s n6_17s n6_13s n6_11s n6_20s n6_24s n6_27s n6_28s n6_26s n6_32s n6_34s n6_36s n6_38s n6_41s n6_42s n6_40s n6_43s n6_39s n6_37s n6_35s n6_33s n6_31s n6_30s n6_44s n6_29s n6_25s n6_23s n6_22s n6_22g n6_21s n6_19s n6_46s n6_48s n6_50s n6_51s n6_49s n6_47s n6_45s n6_18s n6_10s n6_8s n6_6s n6_4s n6_2s n6_0s Try.f6
section
variable (off n0 c : Nat) {cs : List Value} {own : Bool} {g : Nat → Nat × Nat}
theorem c6 (hc : WeC cs off n0 g) : LL.run 6 [sl 0 off n0 c] [.cells cs 2 true own] = some ⟨.bool true, [], []⟩ := by
  have a35 := k35 off n0 c 0 (h := [.cells cs 2 true own]) rfl hc
  have hM := madR_M (g := g) (n := n0)
  obtain ⟨g1, g5, glo⟩ := madR_ok (g := g) (n := n0)
  generalize madR g n0 = A at *
  obtain ⟨n, hn⟩ : ∃ n, A.length = n := ⟨_, rfl⟩
  have n5 : n ≤ 5 := by omega
  have hn1 : 1 ≤ n := by omega
  have n60 : n ≤ 60 := by omega
  have sA := spAt_C A
  rw [hn] at a35 sA
  have a36 := k36n (h := [.cells cs 2 true own, spB A]) (b := 1) rfl sA n5 hn1
  have hbd := oFL_bound (l := spAt A) n5 n []
  have hp5 : (5 : Nat) ^ n ≤ 5 ^ 5 := Nat.pow_le_pow_right (by decide) n5
  have e5 : (5 : Nat) ^ 5 = 3125 := rfl
  rw [all_ords hM hn n5] at a36 hbd
  have hck := hM.chk
  rw [hn] at hck
  obtain ⟨O, hO⟩ : ∃ O, fstR (spAt A) n = O := ⟨_, rfl⟩
  have h0 : (ords (nxB (spAt A) n) n n 0)[0]? = some O := by
    rw [← hO, fs_get (chk_le hck) n 0 cntU_zero]
    unfold fstR
    rw [if_pos hck]
  have hOl : O.length = n := by
    rw [← hO]
    unfold fstR
    rw [if_pos hck]
    exact fstR_len hck
  have cA := cnt_ok hM hn n5
  have hcl : cntV (spAt A) n = (ords (nxB (spAt A) n) n n 0).length := by rw [cA.2, ords_len]
  have o1 := ord_out (M := ords (nxB (spAt A) n) n n 0) hM hn n5 rfl (by omega)
  have lp := l6 (.cells cs 2 true own) hM hn n5 (M := ords (nxB (spAt A) n) n n 0) rfl (by omega) hn1 _ 0 (Nat.zero_add _)
  have hk5 : (ords (nxB (spAt A) n) n n 0).length ≤ 5000 := by omega
  generalize ords (nxB (spAt A) n) n n 0 = M at *
  obtain ⟨o1, o2, o3, o4⟩ := o1
  have k0 : 0 < M.length := by
    have := (List.getElem?_eq_some_iff.1 h0).1
    exact this
  have p0 := slS_get M 4 0 O h0
  rw [hOl] at p0
  have a23 := k23 1 0 n n (h := .cells cs 2 true own :: spB A :: .cells [] 1 true true :: lsB 4 M :: M.map nB) rfl sA n60
  rw [cA.1, hcl] at a23
  have a15 := k15 1 0 n n (h := .cells cs 2 true own :: spB A :: .cells [] 1 true true :: lsB 4 M :: M.map nB) rfl sA n60
  have hlen : (.cells cs 2 true own :: spB A :: .cells [] 1 true true :: lsB 4 M :: M.map nB).length = M.length + 4 := by simp
  rw [hck, hO, hOl, hlen] at a15
  have a21 := k21 (L := O) (M.length + 4) 4 (h := .cells cs 2 true own :: spB A :: .cells [] 1 true true :: lsB 4 M :: (M.map nB ++ [nB O])) (by
    simp only [List.getElem?_cons_succ]
    rw [List.getElem?_append_right (by simp)]
    simp) (by
    simp only [List.getElem?_cons_succ]
    exact map_left h0) (by omega) (by omega)
  rw [hOl] at a21
  have a27 := fun (h : List Blk) K => k27 1 0 n n (h := .cells cs 2 true own :: spB A :: h) rfl sA n60 K
  have a27a := a27 [] M.length
  have a27b := a27 [nB []] (-1)
  rw [o1, o2] at a27a
  rw [o3, o4] at a27b
  have s0 := sweep_all (K0 := .cells cs 2 true own) (A := A.flatMap spG) (R := spB A :: .cells [] 1 true true :: lsB 4 M :: (M.map nB ++ [nB O])) (M := M) (N := 3) (p := 4) (σ := [(3, sl 1 0 n n), (5, iv M.length), (53, sl 3 0 M.length M.length), (54, iv M.length), (55, iv 0)]) (σ' := [(3, sl 1 0 n n), (5, iv M.length), (53, sl 2 0 M.length M.length), (54, iv M.length), (55, iv 0)])
    rfl rfl (fun j O' hj => by
      rw [show 4 + j = j + 1 + 1 + 1 + 1 by omega]
      simp only [List.getElem?_cons_succ]
      exact map_left hj) (by omega) (by omega) (by omega) rfl (fun f f1 f2 => by simp [renT, renV_sl, renV_int, dep, f1, f2])
  have sF : ∀ (K0 : Blk) (R : List Blk), sweep 1 ⟨[(2, .bool true)], K0 :: R, []⟩ = some ⟨[(2, .bool true)], [K0], []⟩ := fun K0 R => sweep_to (δ := []) reach_nil rfl rfl
  have r1 : ¬ (M.length : Int) < 1 := by omega
  have k0' : (0 : Int) < (M.length : Int) := by omega
  clear sA hck hO h0 cA hcl o1 o2 o3 o4 a27 hM glo hlen hbd hc
  simp only [spB, lsB, nB, nm_nil, List.length_nil, List.cons_append, List.nil_append, List.length_cons, Nat.reduceAdd, Int.natCast_zero] at a35 a36 a23 a15 a21 a27a a27b s0 lp ⊢
  generalize M.map (fun L => Blk.cells (nm L) 1 true true) = Q at *
  generalize slS 4 M = X at *
  generalize slS 3 M = Y at *
  generalize A.flatMap spG = N at *
  generalize nm O = Z at *
  generalize M.length = k at *
  refine go (by decide) ?_
  rw [run6 _ _ _ (by simp)]
  simp (maxSteps := 1000000) (disch := first | omega | decide | assumption | simp [scal]) [lenA_sl lk_49, o_indexAddrS es_49, loadA_eq ia_24, want_some q6_12g2, want_some q6_12g6, want_some q6_12g12, want_some q6_12g16, want_some q6_38g2, want_some q6_38g6, want_some q6_38g11, want_some q6_38g17, want_some q6_50g2, want_some q6_50g6, -sweep_eq, k14, a35, a36, a23, a15, a21, a27a, a27b, s0, sF, p0, r1, k0, k0', lp]
end
end Go.Proofs.Ytfccmddkblbeoaa.rk
