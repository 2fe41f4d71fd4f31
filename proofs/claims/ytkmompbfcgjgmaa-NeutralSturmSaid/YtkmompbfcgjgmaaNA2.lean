/-
  Contracts of functions of the program at the limit evaluator, continued. No condition.
-/
import Derived.Test.YtkmompbfcgjgmaaNA1
import Derived.Test.YtkmompbfcgjgmaaE40
namespace Go.Proofs.Ytkmompbfcgjgmaa.nt
open Go.GE
set_option linter.unusedVariables false
set_option linter.unusedSimpArgs false
set_option linter.unusedSectionVars false
set_option maxRecDepth 100000
set_option maxHeartbeats 4000000
attribute [local simp] runOps_nil runOps_cons runOpsF_nil runOpsF_cons fstS_some fstF_some opStep_eq want_none oStep_true oStep_false fin_pure fin_read fin_alloc fin_write storeB wrN cellV addWr o_move o_assign o_pick o_alloc o_box o_load o_store o_nilCheck o_bin o_un o_extract o_callV o_callB o_callI callV_f callV_y callV_fc o_makeFunc partsA Instr.fill builtin_len builtin_max2 bin_add bin_sub bin_mul bin_quo bin_rem bin_lss bin_leq bin_gtr bin_geq bin_eql bin_neq un_neg un_not bin_shr bin_shl wrap_u64_id opd opds optAll putO nbeq nblt constOk isC ops sub cl cr co bodyOf thenS_normal thenS_ret thenS_exit thenS_goto afterN_normal afterN_ret afterN_exit afterN_goto condS_true condS_false blockS_normal blockS_ret blockS_exit blockS_goto headS normS normK_eq fixS_nil fixS_cons fix1 fixV emptyB keepO_nil keepO_cons roundC_normal roundC_exit roundC_ret roundC_goto sweep_eq sweepD rnm pickR pickW rootsB ptrT renT ptrFn renFn ptrB_flat ptrB_non renB_flat renB_non plainS_some drawS_some fpsOk disj unord range' dropTo enumT undef wrap_i64_id Value.cells mkCells ptrTo scal cellsAt rdN endS_ret resultsA Option.bind_some tupV finish reachN dep ptrL_eq ptrL renL_eq renL ptrV_bool ptrV_int ptrV_string ptrV_nilFunc ptrV_nilIface ptrV_nilPtr ptrV_ptr ptrV_nilSl ptrV_sl ptrV_iface ptrV_agg ptrV_tuple ptrV_func renV_bool renV_int renV_string renV_nilFunc renV_nilIface renV_nilPtr renV_ptr renV_nilSl renV_sl renV_iface renV_agg renV_tuple renV_func gotoS_goto gotoS_normal gotoS_exit gotoS_ret skip_seq sliceE bnd bndHi intOf optOpd keepT_nil keepT_cons keepC_t keepC_f lk_nil lk_cons lkC_t lkC_f has_nil has_cons hasC_t hasC_f rep_nil rep_cons repC_t repC_f put_eq putC_t putC_f mem_nil mem_cons memC_t memC_f idx_nil idx_cons idxC_t idxC_f reach_nil reachP_cons reachQ_t reachQ_f ptrB_dead renB_dead ins_eq
attribute [local simp] n75_1s n75_5s n75_8s n75_9s n75_7s n75_13s n75_15s n75_17s n75_18s n75_16s n75_14s n75_12s n75_11s n75_19s n75_10s n75_6s n75_4s n75_3s n75_3g n75_2s n75_0s Try.f75 n48_1s n48_3s n48_5s n48_8s n48_11s n48_15s n48_17s n48_18s n48_16s n48_14s n48_21s n48_23s n48_24s n48_22s n48_20s n48_25s n48_19s n48_13s n48_12s n48_9s n48_7s n48_27s n48_28s n48_26s n48_6s n48_4s n48_2s n48_0s Try.f48 n49_1s n49_3s n49_4s n49_2s n49_0s Try.f49 n52_1s n52_3s n52_4s n52_2s n52_0s Try.f52
section
variable (x y : Int) (c n1 d1 n2 d2 n3 d3 n4 d4 : Nat) {cs1 cs2 cs3 cs4 : List Value} {own1 own2 own3 own4 : Bool} (s1 s2 s3 s4 : Int) (ha1 : ∀ (l n : Int), callH LL 38 [sl 6 0 n1 d1, .agg #[iv x, iv y]] [.loop (lp48 1 2 3), c1 n, c1 l, c1 0, bxP 5 4 c, .cells [sl 6 0 n1 d1, sl 7 0 n2 d2, sl 8 0 n3 d3, sl 9 0 n4 d4] 1 false true, .cells cs1 1 true own1, .cells cs2 1 true own2, .cells cs3 1 true own3, .cells cs4 1 true own4, .cells [.func (.func 38) #[] #[]] 1 false true, bxR x y] = some ⟨iv s1, [.loop (lp48 1 2 3), c1 n, c1 l, c1 0, bxP 5 4 c, .cells [sl 6 0 n1 d1, sl 7 0 n2 d2, sl 8 0 n3 d3, sl 9 0 n4 d4] 1 false true, .cells cs1 1 true own1, .cells cs2 1 true own2, .cells cs3 1 true own3, .cells cs4 1 true own4, .cells [.func (.func 38) #[] #[]] 1 false true, bxR x y], [6], []⟩) (ha2 : ∀ (l n : Int), callH LL 38 [sl 7 0 n2 d2, .agg #[iv x, iv y]] [.loop (lp48 1 2 3), c1 n, c1 l, c1 0, bxP 5 4 c, .cells [sl 6 0 n1 d1, sl 7 0 n2 d2, sl 8 0 n3 d3, sl 9 0 n4 d4] 1 false true, .cells cs1 1 true own1, .cells cs2 1 true own2, .cells cs3 1 true own3, .cells cs4 1 true own4, .cells [.func (.func 38) #[] #[]] 1 false true, bxR x y] = some ⟨iv s2, [.loop (lp48 1 2 3), c1 n, c1 l, c1 0, bxP 5 4 c, .cells [sl 6 0 n1 d1, sl 7 0 n2 d2, sl 8 0 n3 d3, sl 9 0 n4 d4] 1 false true, .cells cs1 1 true own1, .cells cs2 1 true own2, .cells cs3 1 true own3, .cells cs4 1 true own4, .cells [.func (.func 38) #[] #[]] 1 false true, bxR x y], [7], []⟩) (ha3 : ∀ (l n : Int), callH LL 38 [sl 8 0 n3 d3, .agg #[iv x, iv y]] [.loop (lp48 1 2 3), c1 n, c1 l, c1 0, bxP 5 4 c, .cells [sl 6 0 n1 d1, sl 7 0 n2 d2, sl 8 0 n3 d3, sl 9 0 n4 d4] 1 false true, .cells cs1 1 true own1, .cells cs2 1 true own2, .cells cs3 1 true own3, .cells cs4 1 true own4, .cells [.func (.func 38) #[] #[]] 1 false true, bxR x y] = some ⟨iv s3, [.loop (lp48 1 2 3), c1 n, c1 l, c1 0, bxP 5 4 c, .cells [sl 6 0 n1 d1, sl 7 0 n2 d2, sl 8 0 n3 d3, sl 9 0 n4 d4] 1 false true, .cells cs1 1 true own1, .cells cs2 1 true own2, .cells cs3 1 true own3, .cells cs4 1 true own4, .cells [.func (.func 38) #[] #[]] 1 false true, bxR x y], [8], []⟩) (ha4 : ∀ (l n : Int), callH LL 38 [sl 9 0 n4 d4, .agg #[iv x, iv y]] [.loop (lp48 1 2 3), c1 n, c1 l, c1 0, bxP 5 4 c, .cells [sl 6 0 n1 d1, sl 7 0 n2 d2, sl 8 0 n3 d3, sl 9 0 n4 d4] 1 false true, .cells cs1 1 true own1, .cells cs2 1 true own2, .cells cs3 1 true own3, .cells cs4 1 true own4, .cells [.func (.func 38) #[] #[]] 1 false true, bxR x y] = some ⟨iv s4, [.loop (lp48 1 2 3), c1 n, c1 l, c1 0, bxP 5 4 c, .cells [sl 6 0 n1 d1, sl 7 0 n2 d2, sl 8 0 n3 d3, sl 9 0 n4 d4] 1 false true, .cells cs1 1 true own1, .cells cs2 1 true own2, .cells cs3 1 true own3, .cells cs4 1 true own4, .cells [.func (.func 38) #[] #[]] 1 false true, bxR x y], [9], []⟩)
include ha1 ha2 ha3 ha4
theorem l75_4_4 (l : Int) (n : Nat) (W : List Nat) (hI : InvW l n W) (hn : n ≤ 4) : ∃ W', InvW (chL [] l) (chN [] l n) W' ∧ ((4 < 4 ∨ W ≠ []) → W' ≠ []) ∧
    lpB Try.prog LL ⟨75, 21, 12, none⟩ n75_3 n75_4 ⟨[(0, .func (.yield 0) #[] #[]), (2, pp 10), (3, pp 11), (7, sl 5 0 4 c), (8, iv 4), (9, iv 4)], [.loop (lp48 1 2 3), c1 ((n : Nat) : Int), c1 l, c1 0, bxP 5 4 c, .cells [sl 6 0 n1 d1, sl 7 0 n2 d2, sl 8 0 n3 d3, sl 9 0 n4 d4] 1 false true, .cells cs1 1 true own1, .cells cs2 1 true own2, .cells cs3 1 true own3, .cells cs4 1 true own4, .cells [.func (.func 38) #[] #[]] 1 false true, bxR x y], W⟩ =
      some (.exit 0, ⟨[], [.loop (lp48 1 2 3), c1 ((chN [] l n : Nat) : Int), c1 (chL [] l), c1 0, bxP 5 4 c, .cells [sl 6 0 n1 d1, sl 7 0 n2 d2, sl 8 0 n3 d3, sl 9 0 n4 d4] 1 false true, .cells cs1 1 true own1, .cells cs2 1 true own2, .cells cs3 1 true own3, .cells cs4 1 true own4, .cells [.func (.func 38) #[] #[]] 1 false true, bxR x y], W'⟩) := by
  refine ⟨W, hI, fun h => h.elim (fun h => absurd h (by omega)) id, ?_⟩
  simp only [chL, chN]
  rw [lpB_eq]
  simp only [lp48]
  clear ha1 ha2 ha3 ha4
  rcases hI with ⟨rfl, rfl, rfl⟩ | ⟨rfl, rfl, rfl⟩ | ⟨rfl, rfl⟩ | rfl <;>
  simp (maxSteps := 1000000) (disch := first | omega | decide | assumption | simp [scal]) [loadA_eq ia_76, lenA_sl lk_76, o_indexAddrS es_76, loadA_eq ia_71, loadA_eq ia_86, loadA_eq ia_24, ptrB, renB]
theorem l75_4_3 (l : Int) (n : Nat) (W : List Nat) (hI : InvW l n W) (hn : n ≤ 3) : ∃ W', InvW (chL [s4] l) (chN [s4] l n) W' ∧ ((3 < 4 ∨ W ≠ []) → W' ≠ []) ∧
    lpB Try.prog LL ⟨75, 21, 12, none⟩ n75_3 n75_4 ⟨[(0, .func (.yield 0) #[] #[]), (2, pp 10), (3, pp 11), (7, sl 5 0 4 c), (8, iv 4), (9, iv 3)], [.loop (lp48 1 2 3), c1 ((n : Nat) : Int), c1 l, c1 0, bxP 5 4 c, .cells [sl 6 0 n1 d1, sl 7 0 n2 d2, sl 8 0 n3 d3, sl 9 0 n4 d4] 1 false true, .cells cs1 1 true own1, .cells cs2 1 true own2, .cells cs3 1 true own3, .cells cs4 1 true own4, .cells [.func (.func 38) #[] #[]] 1 false true, bxR x y], W⟩ =
      some (.exit 0, ⟨[], [.loop (lp48 1 2 3), c1 ((chN [s4] l n : Nat) : Int), c1 (chL [s4] l), c1 0, bxP 5 4 c, .cells [sl 6 0 n1 d1, sl 7 0 n2 d2, sl 8 0 n3 d3, sl 9 0 n4 d4] 1 false true, .cells cs1 1 true own1, .cells cs2 1 true own2, .cells cs3 1 true own3, .cells cs4 1 true own4, .cells [.func (.func 38) #[] #[]] 1 false true, bxR x y], W'⟩) := by
  have ha := ha4
  have f0 := fun l n W (h : InvW l n W) (hn : n ≤ 4) => l75_4_4 x y c n1 d1 n2 d2 n3 d3 n4 d4 s1 s2 s3 s4 ha1 ha2 ha3 ha4 l n W h hn
  clear ha1 ha2 ha3 ha4
  generalize hs : s4 = s at *
  rcases hI with ⟨rfl, rfl, rfl⟩ | ⟨rfl, rfl, rfl⟩ | ⟨rfl, rfl⟩ | rfl
  · by_cases h0 : s = 0
    · subst h0
      have q1 : chL (0 :: []) 0 = chL [] 0 := by simp [chL]
      have q2 : chN (0 :: []) 0 0 = chN [] 0 0 := by simp [chN]
      obtain ⟨W', i1, i2, this⟩ := f0 0 0 [0] (.inr (.inl ⟨rfl, rfl, rfl⟩)) (by omega)
      have yy := y48z 0 ((0 : Nat) : Int)
      rw [q1, q2]
      refine ⟨W', i1, fun _ => i2 (.inr (by simp)), ?_⟩
      clear f0 q1 q2 i1 i2
      generalize chL [] _ = Z1 at *
      generalize chN [] _ _ = Z2 at *
      try simp only [cast1, Int.natCast_zero, Int.zero_add] at this
      try simp only [Int.natCast_zero, Int.zero_add] at yy
      try simp only [Int.natCast_zero]
      rw [lpB_eq]
      simp only [lp48] at ha yy this ⊢
      simp (maxSteps := 1000000) (disch := first | omega | decide | assumption | simp [scal]) [loadA_eq ia_76, lenA_sl lk_76, o_indexAddrS es_76, loadA_eq ia_71, loadA_eq ia_86, loadA_eq ia_24, ptrB, renB, ha, yy, addWr, ins, this, Int.natCast_zero]
    · skip
      have q1 : chL (s :: []) 0 = chL [] s := by simp [chL, h0]
      have q2 : chN (s :: []) 0 0 = chN [] s 0 := by simp [chN, h0]
      obtain ⟨W', i1, i2, this⟩ := f0 s 0 [0, 2] (.inr (.inr (.inl ⟨rfl, rfl⟩))) (by omega)
      have yy := y48b s 0 0 (by omega) h0 rfl
      rw [q1, q2]
      refine ⟨W', i1, fun _ => i2 (.inr (by simp)), ?_⟩
      clear f0 q1 q2 i1 i2
      generalize chL [] _ = Z1 at *
      generalize chN [] _ _ = Z2 at *
      try simp only [cast1, Int.natCast_zero, Int.zero_add] at this
      try simp only [Int.natCast_zero, Int.zero_add] at yy
      try simp only [Int.natCast_zero]
      rw [lpB_eq]
      simp only [lp48] at ha yy this ⊢
      simp (maxSteps := 1000000) (disch := first | omega | decide | assumption | simp [scal]) [loadA_eq ia_76, lenA_sl lk_76, o_indexAddrS es_76, loadA_eq ia_71, loadA_eq ia_86, loadA_eq ia_24, ptrB, renB, ha, yy, addWr, ins, this, Int.natCast_zero]
  · by_cases h0 : s = 0
    · subst h0
      have q1 : chL (0 :: []) 0 = chL [] 0 := by simp [chL]
      have q2 : chN (0 :: []) 0 0 = chN [] 0 0 := by simp [chN]
      obtain ⟨W', i1, i2, this⟩ := f0 0 0 [0] (.inr (.inl ⟨rfl, rfl, rfl⟩)) (by omega)
      have yy := y48z 0 ((0 : Nat) : Int)
      rw [q1, q2]
      refine ⟨W', i1, fun _ => i2 (.inr (by simp)), ?_⟩
      clear f0 q1 q2 i1 i2
      generalize chL [] _ = Z1 at *
      generalize chN [] _ _ = Z2 at *
      try simp only [cast1, Int.natCast_zero, Int.zero_add] at this
      try simp only [Int.natCast_zero, Int.zero_add] at yy
      try simp only [Int.natCast_zero]
      rw [lpB_eq]
      simp only [lp48] at ha yy this ⊢
      simp (maxSteps := 1000000) (disch := first | omega | decide | assumption | simp [scal]) [loadA_eq ia_76, lenA_sl lk_76, o_indexAddrS es_76, loadA_eq ia_71, loadA_eq ia_86, loadA_eq ia_24, ptrB, renB, ha, yy, addWr, ins, this, Int.natCast_zero]
    · skip
      have q1 : chL (s :: []) 0 = chL [] s := by simp [chL, h0]
      have q2 : chN (s :: []) 0 0 = chN [] s 0 := by simp [chN, h0]
      obtain ⟨W', i1, i2, this⟩ := f0 s 0 [0, 2] (.inr (.inr (.inl ⟨rfl, rfl⟩))) (by omega)
      have yy := y48b s 0 0 (by omega) h0 rfl
      rw [q1, q2]
      refine ⟨W', i1, fun _ => i2 (.inr (by simp)), ?_⟩
      clear f0 q1 q2 i1 i2
      generalize chL [] _ = Z1 at *
      generalize chN [] _ _ = Z2 at *
      try simp only [cast1, Int.natCast_zero, Int.zero_add] at this
      try simp only [Int.natCast_zero, Int.zero_add] at yy
      try simp only [Int.natCast_zero]
      rw [lpB_eq]
      simp only [lp48] at ha yy this ⊢
      simp (maxSteps := 1000000) (disch := first | omega | decide | assumption | simp [scal]) [loadA_eq ia_76, lenA_sl lk_76, o_indexAddrS es_76, loadA_eq ia_71, loadA_eq ia_86, loadA_eq ia_24, ptrB, renB, ha, yy, addWr, ins, this, Int.natCast_zero]
  · by_cases h0 : s = 0
    · subst h0
      have q1 : chL (0 :: []) l = chL [] l := by simp [chL]
      have q2 : chN (0 :: []) l 0 = chN [] l 0 := by simp [chN]
      obtain ⟨W', i1, i2, this⟩ := f0 l 0 [0, 2] (.inr (.inr (.inl ⟨rfl, rfl⟩))) (by omega)
      have yy := y48z l ((0 : Nat) : Int)
      rw [q1, q2]
      refine ⟨W', i1, fun _ => i2 (.inr (by simp)), ?_⟩
      clear f0 q1 q2 i1 i2
      generalize chL [] _ = Z1 at *
      generalize chN [] _ _ = Z2 at *
      try simp only [cast1, Int.natCast_zero, Int.zero_add] at this
      try simp only [Int.natCast_zero, Int.zero_add] at yy
      try simp only [Int.natCast_zero]
      rw [lpB_eq]
      simp only [lp48] at ha yy this ⊢
      simp (maxSteps := 1000000) (disch := first | omega | decide | assumption | simp [scal]) [loadA_eq ia_76, lenA_sl lk_76, o_indexAddrS es_76, loadA_eq ia_71, loadA_eq ia_86, loadA_eq ia_24, ptrB, renB, ha, yy, addWr, ins, this, Int.natCast_zero]
    · by_cases h1 : l = 0
      · subst h1
        have q1 : chL (s :: []) 0 = chL [] s := by simp [chL, h0]
        have q2 : chN (s :: []) 0 0 = chN [] s 0 := by simp [chN, h0]
        obtain ⟨W', i1, i2, this⟩ := f0 s 0 [0, 2] (.inr (.inr (.inl ⟨rfl, rfl⟩))) (by omega)
        have yy := y48b s 0 0 (by omega) h0 rfl
        rw [q1, q2]
        refine ⟨W', i1, fun _ => i2 (.inr (by simp)), ?_⟩
        clear f0 q1 q2 i1 i2
        generalize chL [] _ = Z1 at *
        generalize chN [] _ _ = Z2 at *
        try simp only [cast1, Int.natCast_zero, Int.zero_add] at this
        try simp only [Int.natCast_zero, Int.zero_add] at yy
        try simp only [Int.natCast_zero]
        rw [lpB_eq]
        simp only [lp48] at ha yy this ⊢
        simp (maxSteps := 1000000) (disch := first | omega | decide | assumption | simp [scal]) [loadA_eq ia_76, lenA_sl lk_76, o_indexAddrS es_76, loadA_eq ia_71, loadA_eq ia_86, loadA_eq ia_24, ptrB, renB, ha, yy, addWr, ins, this, Int.natCast_zero]
      · by_cases h2 : s = l
        · skip
          have q1 : chL (s :: []) l = chL [] s := by simp [chL, h0, h1, h2]
          have q2 : chN (s :: []) l 0 = chN [] s 0 := by simp [chN, h0, h1, h2]
          obtain ⟨W', i1, i2, this⟩ := f0 s 0 [0, 2] (.inr (.inr (.inl ⟨rfl, rfl⟩))) (by omega)
          have yy := y48c s l 0 (by omega) h0 h1 h2
          rw [q1, q2]
          refine ⟨W', i1, fun _ => i2 (.inr (by simp)), ?_⟩
          clear f0 q1 q2 i1 i2
          generalize chL [] _ = Z1 at *
          generalize chN [] _ _ = Z2 at *
          try simp only [cast1, Int.natCast_zero, Int.zero_add] at this
          try simp only [Int.natCast_zero, Int.zero_add] at yy
          try simp only [Int.natCast_zero]
          rw [lpB_eq]
          simp only [lp48] at ha yy this ⊢
          simp (maxSteps := 1000000) (disch := first | omega | decide | assumption | simp [scal]) [loadA_eq ia_76, lenA_sl lk_76, o_indexAddrS es_76, loadA_eq ia_71, loadA_eq ia_86, loadA_eq ia_24, ptrB, renB, ha, yy, addWr, ins, this, Int.natCast_zero]
        · skip
          have q1 : chL (s :: []) l = chL [] s := by simp [chL, h0, h1, h2]
          have q2 : chN (s :: []) l 0 = chN [] s (0 + 1) := by simp [chN, h0, h1, h2]
          obtain ⟨W', i1, i2, this⟩ := f0 s (0 + 1) [0, 2, 1] (.inr (.inr (.inr rfl))) (by omega)
          have yy := y48a s l 0 (by omega) h0 h1 h2
          rw [q1, q2]
          refine ⟨W', i1, fun _ => i2 (.inr (by simp)), ?_⟩
          clear f0 q1 q2 i1 i2
          generalize chL [] _ = Z1 at *
          generalize chN [] _ _ = Z2 at *
          try simp only [cast1, Int.natCast_zero, Int.zero_add] at this
          try simp only [Int.natCast_zero, Int.zero_add] at yy
          try simp only [Int.natCast_zero]
          rw [lpB_eq]
          simp only [lp48] at ha yy this ⊢
          simp (maxSteps := 1000000) (disch := first | omega | decide | assumption | simp [scal]) [loadA_eq ia_76, lenA_sl lk_76, o_indexAddrS es_76, loadA_eq ia_71, loadA_eq ia_86, loadA_eq ia_24, ptrB, renB, ha, yy, addWr, ins, this, Int.natCast_zero]
  · by_cases h0 : s = 0
    · subst h0
      have q1 : chL (0 :: []) l = chL [] l := by simp [chL]
      have q2 : chN (0 :: []) l n = chN [] l n := by simp [chN]
      obtain ⟨W', i1, i2, this⟩ := f0 l n [0, 2, 1] (.inr (.inr (.inr rfl))) (by omega)
      have yy := y48z l ((n : Nat) : Int)
      rw [q1, q2]
      refine ⟨W', i1, fun _ => i2 (.inr (by simp)), ?_⟩
      clear f0 q1 q2 i1 i2
      generalize chL [] _ = Z1 at *
      generalize chN [] _ _ = Z2 at *
      try simp only [cast1, Int.natCast_zero, Int.zero_add] at this
      try simp only [Int.natCast_zero, Int.zero_add] at yy
      try simp only [Int.natCast_zero]
      rw [lpB_eq]
      simp only [lp48] at ha yy this ⊢
      simp (maxSteps := 1000000) (disch := first | omega | decide | assumption | simp [scal]) [loadA_eq ia_76, lenA_sl lk_76, o_indexAddrS es_76, loadA_eq ia_71, loadA_eq ia_86, loadA_eq ia_24, ptrB, renB, ha, yy, addWr, ins, this]
    · by_cases h1 : l = 0
      · subst h1
        have q1 : chL (s :: []) 0 = chL [] s := by simp [chL, h0]
        have q2 : chN (s :: []) 0 n = chN [] s n := by simp [chN, h0]
        obtain ⟨W', i1, i2, this⟩ := f0 s n [0, 2, 1] (.inr (.inr (.inr rfl))) (by omega)
        have yy := y48b s 0 n (by omega) h0 rfl
        rw [q1, q2]
        refine ⟨W', i1, fun _ => i2 (.inr (by simp)), ?_⟩
        clear f0 q1 q2 i1 i2
        generalize chL [] _ = Z1 at *
        generalize chN [] _ _ = Z2 at *
        try simp only [cast1, Int.natCast_zero, Int.zero_add] at this
        try simp only [Int.natCast_zero, Int.zero_add] at yy
        try simp only [Int.natCast_zero]
        rw [lpB_eq]
        simp only [lp48] at ha yy this ⊢
        simp (maxSteps := 1000000) (disch := first | omega | decide | assumption | simp [scal]) [loadA_eq ia_76, lenA_sl lk_76, o_indexAddrS es_76, loadA_eq ia_71, loadA_eq ia_86, loadA_eq ia_24, ptrB, renB, ha, yy, addWr, ins, this]
      · by_cases h2 : s = l
        · skip
          have q1 : chL (s :: []) l = chL [] s := by simp [chL, h0, h1, h2]
          have q2 : chN (s :: []) l n = chN [] s n := by simp [chN, h0, h1, h2]
          obtain ⟨W', i1, i2, this⟩ := f0 s n [0, 2, 1] (.inr (.inr (.inr rfl))) (by omega)
          have yy := y48c s l n (by omega) h0 h1 h2
          rw [q1, q2]
          refine ⟨W', i1, fun _ => i2 (.inr (by simp)), ?_⟩
          clear f0 q1 q2 i1 i2
          generalize chL [] _ = Z1 at *
          generalize chN [] _ _ = Z2 at *
          try simp only [cast1, Int.natCast_zero, Int.zero_add] at this
          try simp only [Int.natCast_zero, Int.zero_add] at yy
          try simp only [Int.natCast_zero]
          rw [lpB_eq]
          simp only [lp48] at ha yy this ⊢
          simp (maxSteps := 1000000) (disch := first | omega | decide | assumption | simp [scal]) [loadA_eq ia_76, lenA_sl lk_76, o_indexAddrS es_76, loadA_eq ia_71, loadA_eq ia_86, loadA_eq ia_24, ptrB, renB, ha, yy, addWr, ins, this]
        · skip
          have q1 : chL (s :: []) l = chL [] s := by simp [chL, h0, h1, h2]
          have q2 : chN (s :: []) l n = chN [] s (n + 1) := by simp [chN, h0, h1, h2]
          obtain ⟨W', i1, i2, this⟩ := f0 s (n + 1) [0, 2, 1] (.inr (.inr (.inr rfl))) (by omega)
          have yy := y48a s l n (by omega) h0 h1 h2
          rw [q1, q2]
          refine ⟨W', i1, fun _ => i2 (.inr (by simp)), ?_⟩
          clear f0 q1 q2 i1 i2
          generalize chL [] _ = Z1 at *
          generalize chN [] _ _ = Z2 at *
          try simp only [cast1, Int.natCast_zero, Int.zero_add] at this
          try simp only [Int.natCast_zero, Int.zero_add] at yy
          try simp only [Int.natCast_zero]
          rw [lpB_eq]
          simp only [lp48] at ha yy this ⊢
          simp (maxSteps := 1000000) (disch := first | omega | decide | assumption | simp [scal]) [loadA_eq ia_76, lenA_sl lk_76, o_indexAddrS es_76, loadA_eq ia_71, loadA_eq ia_86, loadA_eq ia_24, ptrB, renB, ha, yy, addWr, ins, this]
theorem l75_4_2 (l : Int) (n : Nat) (W : List Nat) (hI : InvW l n W) (hn : n ≤ 2) : ∃ W', InvW (chL [s3, s4] l) (chN [s3, s4] l n) W' ∧ ((2 < 4 ∨ W ≠ []) → W' ≠ []) ∧
    lpB Try.prog LL ⟨75, 21, 12, none⟩ n75_3 n75_4 ⟨[(0, .func (.yield 0) #[] #[]), (2, pp 10), (3, pp 11), (7, sl 5 0 4 c), (8, iv 4), (9, iv 2)], [.loop (lp48 1 2 3), c1 ((n : Nat) : Int), c1 l, c1 0, bxP 5 4 c, .cells [sl 6 0 n1 d1, sl 7 0 n2 d2, sl 8 0 n3 d3, sl 9 0 n4 d4] 1 false true, .cells cs1 1 true own1, .cells cs2 1 true own2, .cells cs3 1 true own3, .cells cs4 1 true own4, .cells [.func (.func 38) #[] #[]] 1 false true, bxR x y], W⟩ =
      some (.exit 0, ⟨[], [.loop (lp48 1 2 3), c1 ((chN [s3, s4] l n : Nat) : Int), c1 (chL [s3, s4] l), c1 0, bxP 5 4 c, .cells [sl 6 0 n1 d1, sl 7 0 n2 d2, sl 8 0 n3 d3, sl 9 0 n4 d4] 1 false true, .cells cs1 1 true own1, .cells cs2 1 true own2, .cells cs3 1 true own3, .cells cs4 1 true own4, .cells [.func (.func 38) #[] #[]] 1 false true, bxR x y], W'⟩) := by
  have ha := ha3
  have f0 := fun l n W (h : InvW l n W) (hn : n ≤ 3) => l75_4_3 x y c n1 d1 n2 d2 n3 d3 n4 d4 s1 s2 s3 s4 ha1 ha2 ha3 ha4 l n W h hn
  clear ha1 ha2 ha3 ha4
  generalize hs : s3 = s at *
  rcases hI with ⟨rfl, rfl, rfl⟩ | ⟨rfl, rfl, rfl⟩ | ⟨rfl, rfl⟩ | rfl
  · by_cases h0 : s = 0
    · subst h0
      have q1 : chL (0 :: [s4]) 0 = chL [s4] 0 := by simp [chL]
      have q2 : chN (0 :: [s4]) 0 0 = chN [s4] 0 0 := by simp [chN]
      obtain ⟨W', i1, i2, this⟩ := f0 0 0 [0] (.inr (.inl ⟨rfl, rfl, rfl⟩)) (by omega)
      have yy := y48z 0 ((0 : Nat) : Int)
      rw [q1, q2]
      refine ⟨W', i1, fun _ => i2 (.inr (by simp)), ?_⟩
      clear f0 q1 q2 i1 i2
      generalize chL [s4] _ = Z1 at *
      generalize chN [s4] _ _ = Z2 at *
      try simp only [cast1, Int.natCast_zero, Int.zero_add] at this
      try simp only [Int.natCast_zero, Int.zero_add] at yy
      try simp only [Int.natCast_zero]
      rw [lpB_eq]
      simp only [lp48] at ha yy this ⊢
      simp (maxSteps := 1000000) (disch := first | omega | decide | assumption | simp [scal]) [loadA_eq ia_76, lenA_sl lk_76, o_indexAddrS es_76, loadA_eq ia_71, loadA_eq ia_86, loadA_eq ia_24, ptrB, renB, ha, yy, addWr, ins, this, Int.natCast_zero]
    · skip
      have q1 : chL (s :: [s4]) 0 = chL [s4] s := by simp [chL, h0]
      have q2 : chN (s :: [s4]) 0 0 = chN [s4] s 0 := by simp [chN, h0]
      obtain ⟨W', i1, i2, this⟩ := f0 s 0 [0, 2] (.inr (.inr (.inl ⟨rfl, rfl⟩))) (by omega)
      have yy := y48b s 0 0 (by omega) h0 rfl
      rw [q1, q2]
      refine ⟨W', i1, fun _ => i2 (.inr (by simp)), ?_⟩
      clear f0 q1 q2 i1 i2
      generalize chL [s4] _ = Z1 at *
      generalize chN [s4] _ _ = Z2 at *
      try simp only [cast1, Int.natCast_zero, Int.zero_add] at this
      try simp only [Int.natCast_zero, Int.zero_add] at yy
      try simp only [Int.natCast_zero]
      rw [lpB_eq]
      simp only [lp48] at ha yy this ⊢
      simp (maxSteps := 1000000) (disch := first | omega | decide | assumption | simp [scal]) [loadA_eq ia_76, lenA_sl lk_76, o_indexAddrS es_76, loadA_eq ia_71, loadA_eq ia_86, loadA_eq ia_24, ptrB, renB, ha, yy, addWr, ins, this, Int.natCast_zero]
  · by_cases h0 : s = 0
    · subst h0
      have q1 : chL (0 :: [s4]) 0 = chL [s4] 0 := by simp [chL]
      have q2 : chN (0 :: [s4]) 0 0 = chN [s4] 0 0 := by simp [chN]
      obtain ⟨W', i1, i2, this⟩ := f0 0 0 [0] (.inr (.inl ⟨rfl, rfl, rfl⟩)) (by omega)
      have yy := y48z 0 ((0 : Nat) : Int)
      rw [q1, q2]
      refine ⟨W', i1, fun _ => i2 (.inr (by simp)), ?_⟩
      clear f0 q1 q2 i1 i2
      generalize chL [s4] _ = Z1 at *
      generalize chN [s4] _ _ = Z2 at *
      try simp only [cast1, Int.natCast_zero, Int.zero_add] at this
      try simp only [Int.natCast_zero, Int.zero_add] at yy
      try simp only [Int.natCast_zero]
      rw [lpB_eq]
      simp only [lp48] at ha yy this ⊢
      simp (maxSteps := 1000000) (disch := first | omega | decide | assumption | simp [scal]) [loadA_eq ia_76, lenA_sl lk_76, o_indexAddrS es_76, loadA_eq ia_71, loadA_eq ia_86, loadA_eq ia_24, ptrB, renB, ha, yy, addWr, ins, this, Int.natCast_zero]
    · skip
      have q1 : chL (s :: [s4]) 0 = chL [s4] s := by simp [chL, h0]
      have q2 : chN (s :: [s4]) 0 0 = chN [s4] s 0 := by simp [chN, h0]
      obtain ⟨W', i1, i2, this⟩ := f0 s 0 [0, 2] (.inr (.inr (.inl ⟨rfl, rfl⟩))) (by omega)
      have yy := y48b s 0 0 (by omega) h0 rfl
      rw [q1, q2]
      refine ⟨W', i1, fun _ => i2 (.inr (by simp)), ?_⟩
      clear f0 q1 q2 i1 i2
      generalize chL [s4] _ = Z1 at *
      generalize chN [s4] _ _ = Z2 at *
      try simp only [cast1, Int.natCast_zero, Int.zero_add] at this
      try simp only [Int.natCast_zero, Int.zero_add] at yy
      try simp only [Int.natCast_zero]
      rw [lpB_eq]
      simp only [lp48] at ha yy this ⊢
      simp (maxSteps := 1000000) (disch := first | omega | decide | assumption | simp [scal]) [loadA_eq ia_76, lenA_sl lk_76, o_indexAddrS es_76, loadA_eq ia_71, loadA_eq ia_86, loadA_eq ia_24, ptrB, renB, ha, yy, addWr, ins, this, Int.natCast_zero]
  · by_cases h0 : s = 0
    · subst h0
      have q1 : chL (0 :: [s4]) l = chL [s4] l := by simp [chL]
      have q2 : chN (0 :: [s4]) l 0 = chN [s4] l 0 := by simp [chN]
      obtain ⟨W', i1, i2, this⟩ := f0 l 0 [0, 2] (.inr (.inr (.inl ⟨rfl, rfl⟩))) (by omega)
      have yy := y48z l ((0 : Nat) : Int)
      rw [q1, q2]
      refine ⟨W', i1, fun _ => i2 (.inr (by simp)), ?_⟩
      clear f0 q1 q2 i1 i2
      generalize chL [s4] _ = Z1 at *
      generalize chN [s4] _ _ = Z2 at *
      try simp only [cast1, Int.natCast_zero, Int.zero_add] at this
      try simp only [Int.natCast_zero, Int.zero_add] at yy
      try simp only [Int.natCast_zero]
      rw [lpB_eq]
      simp only [lp48] at ha yy this ⊢
      simp (maxSteps := 1000000) (disch := first | omega | decide | assumption | simp [scal]) [loadA_eq ia_76, lenA_sl lk_76, o_indexAddrS es_76, loadA_eq ia_71, loadA_eq ia_86, loadA_eq ia_24, ptrB, renB, ha, yy, addWr, ins, this, Int.natCast_zero]
    · by_cases h1 : l = 0
      · subst h1
        have q1 : chL (s :: [s4]) 0 = chL [s4] s := by simp [chL, h0]
        have q2 : chN (s :: [s4]) 0 0 = chN [s4] s 0 := by simp [chN, h0]
        obtain ⟨W', i1, i2, this⟩ := f0 s 0 [0, 2] (.inr (.inr (.inl ⟨rfl, rfl⟩))) (by omega)
        have yy := y48b s 0 0 (by omega) h0 rfl
        rw [q1, q2]
        refine ⟨W', i1, fun _ => i2 (.inr (by simp)), ?_⟩
        clear f0 q1 q2 i1 i2
        generalize chL [s4] _ = Z1 at *
        generalize chN [s4] _ _ = Z2 at *
        try simp only [cast1, Int.natCast_zero, Int.zero_add] at this
        try simp only [Int.natCast_zero, Int.zero_add] at yy
        try simp only [Int.natCast_zero]
        rw [lpB_eq]
        simp only [lp48] at ha yy this ⊢
        simp (maxSteps := 1000000) (disch := first | omega | decide | assumption | simp [scal]) [loadA_eq ia_76, lenA_sl lk_76, o_indexAddrS es_76, loadA_eq ia_71, loadA_eq ia_86, loadA_eq ia_24, ptrB, renB, ha, yy, addWr, ins, this, Int.natCast_zero]
      · by_cases h2 : s = l
        · skip
          have q1 : chL (s :: [s4]) l = chL [s4] s := by simp [chL, h0, h1, h2]
          have q2 : chN (s :: [s4]) l 0 = chN [s4] s 0 := by simp [chN, h0, h1, h2]
          obtain ⟨W', i1, i2, this⟩ := f0 s 0 [0, 2] (.inr (.inr (.inl ⟨rfl, rfl⟩))) (by omega)
          have yy := y48c s l 0 (by omega) h0 h1 h2
          rw [q1, q2]
          refine ⟨W', i1, fun _ => i2 (.inr (by simp)), ?_⟩
          clear f0 q1 q2 i1 i2
          generalize chL [s4] _ = Z1 at *
          generalize chN [s4] _ _ = Z2 at *
          try simp only [cast1, Int.natCast_zero, Int.zero_add] at this
          try simp only [Int.natCast_zero, Int.zero_add] at yy
          try simp only [Int.natCast_zero]
          rw [lpB_eq]
          simp only [lp48] at ha yy this ⊢
          simp (maxSteps := 1000000) (disch := first | omega | decide | assumption | simp [scal]) [loadA_eq ia_76, lenA_sl lk_76, o_indexAddrS es_76, loadA_eq ia_71, loadA_eq ia_86, loadA_eq ia_24, ptrB, renB, ha, yy, addWr, ins, this, Int.natCast_zero]
        · skip
          have q1 : chL (s :: [s4]) l = chL [s4] s := by simp [chL, h0, h1, h2]
          have q2 : chN (s :: [s4]) l 0 = chN [s4] s (0 + 1) := by simp [chN, h0, h1, h2]
          obtain ⟨W', i1, i2, this⟩ := f0 s (0 + 1) [0, 2, 1] (.inr (.inr (.inr rfl))) (by omega)
          have yy := y48a s l 0 (by omega) h0 h1 h2
          rw [q1, q2]
          refine ⟨W', i1, fun _ => i2 (.inr (by simp)), ?_⟩
          clear f0 q1 q2 i1 i2
          generalize chL [s4] _ = Z1 at *
          generalize chN [s4] _ _ = Z2 at *
          try simp only [cast1, Int.natCast_zero, Int.zero_add] at this
          try simp only [Int.natCast_zero, Int.zero_add] at yy
          try simp only [Int.natCast_zero]
          rw [lpB_eq]
          simp only [lp48] at ha yy this ⊢
          simp (maxSteps := 1000000) (disch := first | omega | decide | assumption | simp [scal]) [loadA_eq ia_76, lenA_sl lk_76, o_indexAddrS es_76, loadA_eq ia_71, loadA_eq ia_86, loadA_eq ia_24, ptrB, renB, ha, yy, addWr, ins, this, Int.natCast_zero]
  · by_cases h0 : s = 0
    · subst h0
      have q1 : chL (0 :: [s4]) l = chL [s4] l := by simp [chL]
      have q2 : chN (0 :: [s4]) l n = chN [s4] l n := by simp [chN]
      obtain ⟨W', i1, i2, this⟩ := f0 l n [0, 2, 1] (.inr (.inr (.inr rfl))) (by omega)
      have yy := y48z l ((n : Nat) : Int)
      rw [q1, q2]
      refine ⟨W', i1, fun _ => i2 (.inr (by simp)), ?_⟩
      clear f0 q1 q2 i1 i2
      generalize chL [s4] _ = Z1 at *
      generalize chN [s4] _ _ = Z2 at *
      try simp only [cast1, Int.natCast_zero, Int.zero_add] at this
      try simp only [Int.natCast_zero, Int.zero_add] at yy
      try simp only [Int.natCast_zero]
      rw [lpB_eq]
      simp only [lp48] at ha yy this ⊢
      simp (maxSteps := 1000000) (disch := first | omega | decide | assumption | simp [scal]) [loadA_eq ia_76, lenA_sl lk_76, o_indexAddrS es_76, loadA_eq ia_71, loadA_eq ia_86, loadA_eq ia_24, ptrB, renB, ha, yy, addWr, ins, this]
    · by_cases h1 : l = 0
      · subst h1
        have q1 : chL (s :: [s4]) 0 = chL [s4] s := by simp [chL, h0]
        have q2 : chN (s :: [s4]) 0 n = chN [s4] s n := by simp [chN, h0]
        obtain ⟨W', i1, i2, this⟩ := f0 s n [0, 2, 1] (.inr (.inr (.inr rfl))) (by omega)
        have yy := y48b s 0 n (by omega) h0 rfl
        rw [q1, q2]
        refine ⟨W', i1, fun _ => i2 (.inr (by simp)), ?_⟩
        clear f0 q1 q2 i1 i2
        generalize chL [s4] _ = Z1 at *
        generalize chN [s4] _ _ = Z2 at *
        try simp only [cast1, Int.natCast_zero, Int.zero_add] at this
        try simp only [Int.natCast_zero, Int.zero_add] at yy
        try simp only [Int.natCast_zero]
        rw [lpB_eq]
        simp only [lp48] at ha yy this ⊢
        simp (maxSteps := 1000000) (disch := first | omega | decide | assumption | simp [scal]) [loadA_eq ia_76, lenA_sl lk_76, o_indexAddrS es_76, loadA_eq ia_71, loadA_eq ia_86, loadA_eq ia_24, ptrB, renB, ha, yy, addWr, ins, this]
      · by_cases h2 : s = l
        · skip
          have q1 : chL (s :: [s4]) l = chL [s4] s := by simp [chL, h0, h1, h2]
          have q2 : chN (s :: [s4]) l n = chN [s4] s n := by simp [chN, h0, h1, h2]
          obtain ⟨W', i1, i2, this⟩ := f0 s n [0, 2, 1] (.inr (.inr (.inr rfl))) (by omega)
          have yy := y48c s l n (by omega) h0 h1 h2
          rw [q1, q2]
          refine ⟨W', i1, fun _ => i2 (.inr (by simp)), ?_⟩
          clear f0 q1 q2 i1 i2
          generalize chL [s4] _ = Z1 at *
          generalize chN [s4] _ _ = Z2 at *
          try simp only [cast1, Int.natCast_zero, Int.zero_add] at this
          try simp only [Int.natCast_zero, Int.zero_add] at yy
          try simp only [Int.natCast_zero]
          rw [lpB_eq]
          simp only [lp48] at ha yy this ⊢
          simp (maxSteps := 1000000) (disch := first | omega | decide | assumption | simp [scal]) [loadA_eq ia_76, lenA_sl lk_76, o_indexAddrS es_76, loadA_eq ia_71, loadA_eq ia_86, loadA_eq ia_24, ptrB, renB, ha, yy, addWr, ins, this]
        · skip
          have q1 : chL (s :: [s4]) l = chL [s4] s := by simp [chL, h0, h1, h2]
          have q2 : chN (s :: [s4]) l n = chN [s4] s (n + 1) := by simp [chN, h0, h1, h2]
          obtain ⟨W', i1, i2, this⟩ := f0 s (n + 1) [0, 2, 1] (.inr (.inr (.inr rfl))) (by omega)
          have yy := y48a s l n (by omega) h0 h1 h2
          rw [q1, q2]
          refine ⟨W', i1, fun _ => i2 (.inr (by simp)), ?_⟩
          clear f0 q1 q2 i1 i2
          generalize chL [s4] _ = Z1 at *
          generalize chN [s4] _ _ = Z2 at *
          try simp only [cast1, Int.natCast_zero, Int.zero_add] at this
          try simp only [Int.natCast_zero, Int.zero_add] at yy
          try simp only [Int.natCast_zero]
          rw [lpB_eq]
          simp only [lp48] at ha yy this ⊢
          simp (maxSteps := 1000000) (disch := first | omega | decide | assumption | simp [scal]) [loadA_eq ia_76, lenA_sl lk_76, o_indexAddrS es_76, loadA_eq ia_71, loadA_eq ia_86, loadA_eq ia_24, ptrB, renB, ha, yy, addWr, ins, this]
theorem l75_4_1 (l : Int) (n : Nat) (W : List Nat) (hI : InvW l n W) (hn : n ≤ 1) : ∃ W', InvW (chL [s2, s3, s4] l) (chN [s2, s3, s4] l n) W' ∧ ((1 < 4 ∨ W ≠ []) → W' ≠ []) ∧
    lpB Try.prog LL ⟨75, 21, 12, none⟩ n75_3 n75_4 ⟨[(0, .func (.yield 0) #[] #[]), (2, pp 10), (3, pp 11), (7, sl 5 0 4 c), (8, iv 4), (9, iv 1)], [.loop (lp48 1 2 3), c1 ((n : Nat) : Int), c1 l, c1 0, bxP 5 4 c, .cells [sl 6 0 n1 d1, sl 7 0 n2 d2, sl 8 0 n3 d3, sl 9 0 n4 d4] 1 false true, .cells cs1 1 true own1, .cells cs2 1 true own2, .cells cs3 1 true own3, .cells cs4 1 true own4, .cells [.func (.func 38) #[] #[]] 1 false true, bxR x y], W⟩ =
      some (.exit 0, ⟨[], [.loop (lp48 1 2 3), c1 ((chN [s2, s3, s4] l n : Nat) : Int), c1 (chL [s2, s3, s4] l), c1 0, bxP 5 4 c, .cells [sl 6 0 n1 d1, sl 7 0 n2 d2, sl 8 0 n3 d3, sl 9 0 n4 d4] 1 false true, .cells cs1 1 true own1, .cells cs2 1 true own2, .cells cs3 1 true own3, .cells cs4 1 true own4, .cells [.func (.func 38) #[] #[]] 1 false true, bxR x y], W'⟩) := by
  have ha := ha2
  have f0 := fun l n W (h : InvW l n W) (hn : n ≤ 2) => l75_4_2 x y c n1 d1 n2 d2 n3 d3 n4 d4 s1 s2 s3 s4 ha1 ha2 ha3 ha4 l n W h hn
  clear ha1 ha2 ha3 ha4
  generalize hs : s2 = s at *
  rcases hI with ⟨rfl, rfl, rfl⟩ | ⟨rfl, rfl, rfl⟩ | ⟨rfl, rfl⟩ | rfl
  · by_cases h0 : s = 0
    · subst h0
      have q1 : chL (0 :: [s3, s4]) 0 = chL [s3, s4] 0 := by simp [chL]
      have q2 : chN (0 :: [s3, s4]) 0 0 = chN [s3, s4] 0 0 := by simp [chN]
      obtain ⟨W', i1, i2, this⟩ := f0 0 0 [0] (.inr (.inl ⟨rfl, rfl, rfl⟩)) (by omega)
      have yy := y48z 0 ((0 : Nat) : Int)
      rw [q1, q2]
      refine ⟨W', i1, fun _ => i2 (.inr (by simp)), ?_⟩
      clear f0 q1 q2 i1 i2
      generalize chL [s3, s4] _ = Z1 at *
      generalize chN [s3, s4] _ _ = Z2 at *
      try simp only [cast1, Int.natCast_zero, Int.zero_add] at this
      try simp only [Int.natCast_zero, Int.zero_add] at yy
      try simp only [Int.natCast_zero]
      rw [lpB_eq]
      simp only [lp48] at ha yy this ⊢
      simp (maxSteps := 1000000) (disch := first | omega | decide | assumption | simp [scal]) [loadA_eq ia_76, lenA_sl lk_76, o_indexAddrS es_76, loadA_eq ia_71, loadA_eq ia_86, loadA_eq ia_24, ptrB, renB, ha, yy, addWr, ins, this, Int.natCast_zero]
    · skip
      have q1 : chL (s :: [s3, s4]) 0 = chL [s3, s4] s := by simp [chL, h0]
      have q2 : chN (s :: [s3, s4]) 0 0 = chN [s3, s4] s 0 := by simp [chN, h0]
      obtain ⟨W', i1, i2, this⟩ := f0 s 0 [0, 2] (.inr (.inr (.inl ⟨rfl, rfl⟩))) (by omega)
      have yy := y48b s 0 0 (by omega) h0 rfl
      rw [q1, q2]
      refine ⟨W', i1, fun _ => i2 (.inr (by simp)), ?_⟩
      clear f0 q1 q2 i1 i2
      generalize chL [s3, s4] _ = Z1 at *
      generalize chN [s3, s4] _ _ = Z2 at *
      try simp only [cast1, Int.natCast_zero, Int.zero_add] at this
      try simp only [Int.natCast_zero, Int.zero_add] at yy
      try simp only [Int.natCast_zero]
      rw [lpB_eq]
      simp only [lp48] at ha yy this ⊢
      simp (maxSteps := 1000000) (disch := first | omega | decide | assumption | simp [scal]) [loadA_eq ia_76, lenA_sl lk_76, o_indexAddrS es_76, loadA_eq ia_71, loadA_eq ia_86, loadA_eq ia_24, ptrB, renB, ha, yy, addWr, ins, this, Int.natCast_zero]
  · by_cases h0 : s = 0
    · subst h0
      have q1 : chL (0 :: [s3, s4]) 0 = chL [s3, s4] 0 := by simp [chL]
      have q2 : chN (0 :: [s3, s4]) 0 0 = chN [s3, s4] 0 0 := by simp [chN]
      obtain ⟨W', i1, i2, this⟩ := f0 0 0 [0] (.inr (.inl ⟨rfl, rfl, rfl⟩)) (by omega)
      have yy := y48z 0 ((0 : Nat) : Int)
      rw [q1, q2]
      refine ⟨W', i1, fun _ => i2 (.inr (by simp)), ?_⟩
      clear f0 q1 q2 i1 i2
      generalize chL [s3, s4] _ = Z1 at *
      generalize chN [s3, s4] _ _ = Z2 at *
      try simp only [cast1, Int.natCast_zero, Int.zero_add] at this
      try simp only [Int.natCast_zero, Int.zero_add] at yy
      try simp only [Int.natCast_zero]
      rw [lpB_eq]
      simp only [lp48] at ha yy this ⊢
      simp (maxSteps := 1000000) (disch := first | omega | decide | assumption | simp [scal]) [loadA_eq ia_76, lenA_sl lk_76, o_indexAddrS es_76, loadA_eq ia_71, loadA_eq ia_86, loadA_eq ia_24, ptrB, renB, ha, yy, addWr, ins, this, Int.natCast_zero]
    · skip
      have q1 : chL (s :: [s3, s4]) 0 = chL [s3, s4] s := by simp [chL, h0]
      have q2 : chN (s :: [s3, s4]) 0 0 = chN [s3, s4] s 0 := by simp [chN, h0]
      obtain ⟨W', i1, i2, this⟩ := f0 s 0 [0, 2] (.inr (.inr (.inl ⟨rfl, rfl⟩))) (by omega)
      have yy := y48b s 0 0 (by omega) h0 rfl
      rw [q1, q2]
      refine ⟨W', i1, fun _ => i2 (.inr (by simp)), ?_⟩
      clear f0 q1 q2 i1 i2
      generalize chL [s3, s4] _ = Z1 at *
      generalize chN [s3, s4] _ _ = Z2 at *
      try simp only [cast1, Int.natCast_zero, Int.zero_add] at this
      try simp only [Int.natCast_zero, Int.zero_add] at yy
      try simp only [Int.natCast_zero]
      rw [lpB_eq]
      simp only [lp48] at ha yy this ⊢
      simp (maxSteps := 1000000) (disch := first | omega | decide | assumption | simp [scal]) [loadA_eq ia_76, lenA_sl lk_76, o_indexAddrS es_76, loadA_eq ia_71, loadA_eq ia_86, loadA_eq ia_24, ptrB, renB, ha, yy, addWr, ins, this, Int.natCast_zero]
  · by_cases h0 : s = 0
    · subst h0
      have q1 : chL (0 :: [s3, s4]) l = chL [s3, s4] l := by simp [chL]
      have q2 : chN (0 :: [s3, s4]) l 0 = chN [s3, s4] l 0 := by simp [chN]
      obtain ⟨W', i1, i2, this⟩ := f0 l 0 [0, 2] (.inr (.inr (.inl ⟨rfl, rfl⟩))) (by omega)
      have yy := y48z l ((0 : Nat) : Int)
      rw [q1, q2]
      refine ⟨W', i1, fun _ => i2 (.inr (by simp)), ?_⟩
      clear f0 q1 q2 i1 i2
      generalize chL [s3, s4] _ = Z1 at *
      generalize chN [s3, s4] _ _ = Z2 at *
      try simp only [cast1, Int.natCast_zero, Int.zero_add] at this
      try simp only [Int.natCast_zero, Int.zero_add] at yy
      try simp only [Int.natCast_zero]
      rw [lpB_eq]
      simp only [lp48] at ha yy this ⊢
      simp (maxSteps := 1000000) (disch := first | omega | decide | assumption | simp [scal]) [loadA_eq ia_76, lenA_sl lk_76, o_indexAddrS es_76, loadA_eq ia_71, loadA_eq ia_86, loadA_eq ia_24, ptrB, renB, ha, yy, addWr, ins, this, Int.natCast_zero]
    · by_cases h1 : l = 0
      · subst h1
        have q1 : chL (s :: [s3, s4]) 0 = chL [s3, s4] s := by simp [chL, h0]
        have q2 : chN (s :: [s3, s4]) 0 0 = chN [s3, s4] s 0 := by simp [chN, h0]
        obtain ⟨W', i1, i2, this⟩ := f0 s 0 [0, 2] (.inr (.inr (.inl ⟨rfl, rfl⟩))) (by omega)
        have yy := y48b s 0 0 (by omega) h0 rfl
        rw [q1, q2]
        refine ⟨W', i1, fun _ => i2 (.inr (by simp)), ?_⟩
        clear f0 q1 q2 i1 i2
        generalize chL [s3, s4] _ = Z1 at *
        generalize chN [s3, s4] _ _ = Z2 at *
        try simp only [cast1, Int.natCast_zero, Int.zero_add] at this
        try simp only [Int.natCast_zero, Int.zero_add] at yy
        try simp only [Int.natCast_zero]
        rw [lpB_eq]
        simp only [lp48] at ha yy this ⊢
        simp (maxSteps := 1000000) (disch := first | omega | decide | assumption | simp [scal]) [loadA_eq ia_76, lenA_sl lk_76, o_indexAddrS es_76, loadA_eq ia_71, loadA_eq ia_86, loadA_eq ia_24, ptrB, renB, ha, yy, addWr, ins, this, Int.natCast_zero]
      · by_cases h2 : s = l
        · skip
          have q1 : chL (s :: [s3, s4]) l = chL [s3, s4] s := by simp [chL, h0, h1, h2]
          have q2 : chN (s :: [s3, s4]) l 0 = chN [s3, s4] s 0 := by simp [chN, h0, h1, h2]
          obtain ⟨W', i1, i2, this⟩ := f0 s 0 [0, 2] (.inr (.inr (.inl ⟨rfl, rfl⟩))) (by omega)
          have yy := y48c s l 0 (by omega) h0 h1 h2
          rw [q1, q2]
          refine ⟨W', i1, fun _ => i2 (.inr (by simp)), ?_⟩
          clear f0 q1 q2 i1 i2
          generalize chL [s3, s4] _ = Z1 at *
          generalize chN [s3, s4] _ _ = Z2 at *
          try simp only [cast1, Int.natCast_zero, Int.zero_add] at this
          try simp only [Int.natCast_zero, Int.zero_add] at yy
          try simp only [Int.natCast_zero]
          rw [lpB_eq]
          simp only [lp48] at ha yy this ⊢
          simp (maxSteps := 1000000) (disch := first | omega | decide | assumption | simp [scal]) [loadA_eq ia_76, lenA_sl lk_76, o_indexAddrS es_76, loadA_eq ia_71, loadA_eq ia_86, loadA_eq ia_24, ptrB, renB, ha, yy, addWr, ins, this, Int.natCast_zero]
        · skip
          have q1 : chL (s :: [s3, s4]) l = chL [s3, s4] s := by simp [chL, h0, h1, h2]
          have q2 : chN (s :: [s3, s4]) l 0 = chN [s3, s4] s (0 + 1) := by simp [chN, h0, h1, h2]
          obtain ⟨W', i1, i2, this⟩ := f0 s (0 + 1) [0, 2, 1] (.inr (.inr (.inr rfl))) (by omega)
          have yy := y48a s l 0 (by omega) h0 h1 h2
          rw [q1, q2]
          refine ⟨W', i1, fun _ => i2 (.inr (by simp)), ?_⟩
          clear f0 q1 q2 i1 i2
          generalize chL [s3, s4] _ = Z1 at *
          generalize chN [s3, s4] _ _ = Z2 at *
          try simp only [cast1, Int.natCast_zero, Int.zero_add] at this
          try simp only [Int.natCast_zero, Int.zero_add] at yy
          try simp only [Int.natCast_zero]
          rw [lpB_eq]
          simp only [lp48] at ha yy this ⊢
          simp (maxSteps := 1000000) (disch := first | omega | decide | assumption | simp [scal]) [loadA_eq ia_76, lenA_sl lk_76, o_indexAddrS es_76, loadA_eq ia_71, loadA_eq ia_86, loadA_eq ia_24, ptrB, renB, ha, yy, addWr, ins, this, Int.natCast_zero]
  · by_cases h0 : s = 0
    · subst h0
      have q1 : chL (0 :: [s3, s4]) l = chL [s3, s4] l := by simp [chL]
      have q2 : chN (0 :: [s3, s4]) l n = chN [s3, s4] l n := by simp [chN]
      obtain ⟨W', i1, i2, this⟩ := f0 l n [0, 2, 1] (.inr (.inr (.inr rfl))) (by omega)
      have yy := y48z l ((n : Nat) : Int)
      rw [q1, q2]
      refine ⟨W', i1, fun _ => i2 (.inr (by simp)), ?_⟩
      clear f0 q1 q2 i1 i2
      generalize chL [s3, s4] _ = Z1 at *
      generalize chN [s3, s4] _ _ = Z2 at *
      try simp only [cast1, Int.natCast_zero, Int.zero_add] at this
      try simp only [Int.natCast_zero, Int.zero_add] at yy
      try simp only [Int.natCast_zero]
      rw [lpB_eq]
      simp only [lp48] at ha yy this ⊢
      simp (maxSteps := 1000000) (disch := first | omega | decide | assumption | simp [scal]) [loadA_eq ia_76, lenA_sl lk_76, o_indexAddrS es_76, loadA_eq ia_71, loadA_eq ia_86, loadA_eq ia_24, ptrB, renB, ha, yy, addWr, ins, this]
    · by_cases h1 : l = 0
      · subst h1
        have q1 : chL (s :: [s3, s4]) 0 = chL [s3, s4] s := by simp [chL, h0]
        have q2 : chN (s :: [s3, s4]) 0 n = chN [s3, s4] s n := by simp [chN, h0]
        obtain ⟨W', i1, i2, this⟩ := f0 s n [0, 2, 1] (.inr (.inr (.inr rfl))) (by omega)
        have yy := y48b s 0 n (by omega) h0 rfl
        rw [q1, q2]
        refine ⟨W', i1, fun _ => i2 (.inr (by simp)), ?_⟩
        clear f0 q1 q2 i1 i2
        generalize chL [s3, s4] _ = Z1 at *
        generalize chN [s3, s4] _ _ = Z2 at *
        try simp only [cast1, Int.natCast_zero, Int.zero_add] at this
        try simp only [Int.natCast_zero, Int.zero_add] at yy
        try simp only [Int.natCast_zero]
        rw [lpB_eq]
        simp only [lp48] at ha yy this ⊢
        simp (maxSteps := 1000000) (disch := first | omega | decide | assumption | simp [scal]) [loadA_eq ia_76, lenA_sl lk_76, o_indexAddrS es_76, loadA_eq ia_71, loadA_eq ia_86, loadA_eq ia_24, ptrB, renB, ha, yy, addWr, ins, this]
      · by_cases h2 : s = l
        · skip
          have q1 : chL (s :: [s3, s4]) l = chL [s3, s4] s := by simp [chL, h0, h1, h2]
          have q2 : chN (s :: [s3, s4]) l n = chN [s3, s4] s n := by simp [chN, h0, h1, h2]
          obtain ⟨W', i1, i2, this⟩ := f0 s n [0, 2, 1] (.inr (.inr (.inr rfl))) (by omega)
          have yy := y48c s l n (by omega) h0 h1 h2
          rw [q1, q2]
          refine ⟨W', i1, fun _ => i2 (.inr (by simp)), ?_⟩
          clear f0 q1 q2 i1 i2
          generalize chL [s3, s4] _ = Z1 at *
          generalize chN [s3, s4] _ _ = Z2 at *
          try simp only [cast1, Int.natCast_zero, Int.zero_add] at this
          try simp only [Int.natCast_zero, Int.zero_add] at yy
          try simp only [Int.natCast_zero]
          rw [lpB_eq]
          simp only [lp48] at ha yy this ⊢
          simp (maxSteps := 1000000) (disch := first | omega | decide | assumption | simp [scal]) [loadA_eq ia_76, lenA_sl lk_76, o_indexAddrS es_76, loadA_eq ia_71, loadA_eq ia_86, loadA_eq ia_24, ptrB, renB, ha, yy, addWr, ins, this]
        · skip
          have q1 : chL (s :: [s3, s4]) l = chL [s3, s4] s := by simp [chL, h0, h1, h2]
          have q2 : chN (s :: [s3, s4]) l n = chN [s3, s4] s (n + 1) := by simp [chN, h0, h1, h2]
          obtain ⟨W', i1, i2, this⟩ := f0 s (n + 1) [0, 2, 1] (.inr (.inr (.inr rfl))) (by omega)
          have yy := y48a s l n (by omega) h0 h1 h2
          rw [q1, q2]
          refine ⟨W', i1, fun _ => i2 (.inr (by simp)), ?_⟩
          clear f0 q1 q2 i1 i2
          generalize chL [s3, s4] _ = Z1 at *
          generalize chN [s3, s4] _ _ = Z2 at *
          try simp only [cast1, Int.natCast_zero, Int.zero_add] at this
          try simp only [Int.natCast_zero, Int.zero_add] at yy
          try simp only [Int.natCast_zero]
          rw [lpB_eq]
          simp only [lp48] at ha yy this ⊢
          simp (maxSteps := 1000000) (disch := first | omega | decide | assumption | simp [scal]) [loadA_eq ia_76, lenA_sl lk_76, o_indexAddrS es_76, loadA_eq ia_71, loadA_eq ia_86, loadA_eq ia_24, ptrB, renB, ha, yy, addWr, ins, this]
theorem l75_4_0 (l : Int) (n : Nat) (W : List Nat) (hI : InvW l n W) (hn : n ≤ 0) : ∃ W', InvW (chL [s1, s2, s3, s4] l) (chN [s1, s2, s3, s4] l n) W' ∧ ((0 < 4 ∨ W ≠ []) → W' ≠ []) ∧
    lpB Try.prog LL ⟨75, 21, 12, none⟩ n75_3 n75_4 ⟨[(0, .func (.yield 0) #[] #[]), (2, pp 10), (3, pp 11), (7, sl 5 0 4 c), (8, iv 4), (9, iv 0)], [.loop (lp48 1 2 3), c1 ((n : Nat) : Int), c1 l, c1 0, bxP 5 4 c, .cells [sl 6 0 n1 d1, sl 7 0 n2 d2, sl 8 0 n3 d3, sl 9 0 n4 d4] 1 false true, .cells cs1 1 true own1, .cells cs2 1 true own2, .cells cs3 1 true own3, .cells cs4 1 true own4, .cells [.func (.func 38) #[] #[]] 1 false true, bxR x y], W⟩ =
      some (.exit 0, ⟨[], [.loop (lp48 1 2 3), c1 ((chN [s1, s2, s3, s4] l n : Nat) : Int), c1 (chL [s1, s2, s3, s4] l), c1 0, bxP 5 4 c, .cells [sl 6 0 n1 d1, sl 7 0 n2 d2, sl 8 0 n3 d3, sl 9 0 n4 d4] 1 false true, .cells cs1 1 true own1, .cells cs2 1 true own2, .cells cs3 1 true own3, .cells cs4 1 true own4, .cells [.func (.func 38) #[] #[]] 1 false true, bxR x y], W'⟩) := by
  have ha := ha1
  have f0 := fun l n W (h : InvW l n W) (hn : n ≤ 1) => l75_4_1 x y c n1 d1 n2 d2 n3 d3 n4 d4 s1 s2 s3 s4 ha1 ha2 ha3 ha4 l n W h hn
  clear ha1 ha2 ha3 ha4
  generalize hs : s1 = s at *
  rcases hI with ⟨rfl, rfl, rfl⟩ | ⟨rfl, rfl, rfl⟩ | ⟨rfl, rfl⟩ | rfl
  · by_cases h0 : s = 0
    · subst h0
      have q1 : chL (0 :: [s2, s3, s4]) 0 = chL [s2, s3, s4] 0 := by simp [chL]
      have q2 : chN (0 :: [s2, s3, s4]) 0 0 = chN [s2, s3, s4] 0 0 := by simp [chN]
      obtain ⟨W', i1, i2, this⟩ := f0 0 0 [0] (.inr (.inl ⟨rfl, rfl, rfl⟩)) (by omega)
      have yy := y48z 0 ((0 : Nat) : Int)
      rw [q1, q2]
      refine ⟨W', i1, fun _ => i2 (.inr (by simp)), ?_⟩
      clear f0 q1 q2 i1 i2
      generalize chL [s2, s3, s4] _ = Z1 at *
      generalize chN [s2, s3, s4] _ _ = Z2 at *
      try simp only [cast1, Int.natCast_zero, Int.zero_add] at this
      try simp only [Int.natCast_zero, Int.zero_add] at yy
      try simp only [Int.natCast_zero]
      rw [lpB_eq]
      simp only [lp48] at ha yy this ⊢
      simp (maxSteps := 1000000) (disch := first | omega | decide | assumption | simp [scal]) [loadA_eq ia_76, lenA_sl lk_76, o_indexAddrS es_76, loadA_eq ia_71, loadA_eq ia_86, loadA_eq ia_24, ptrB, renB, ha, yy, addWr, ins, this, Int.natCast_zero]
    · skip
      have q1 : chL (s :: [s2, s3, s4]) 0 = chL [s2, s3, s4] s := by simp [chL, h0]
      have q2 : chN (s :: [s2, s3, s4]) 0 0 = chN [s2, s3, s4] s 0 := by simp [chN, h0]
      obtain ⟨W', i1, i2, this⟩ := f0 s 0 [0, 2] (.inr (.inr (.inl ⟨rfl, rfl⟩))) (by omega)
      have yy := y48b s 0 0 (by omega) h0 rfl
      rw [q1, q2]
      refine ⟨W', i1, fun _ => i2 (.inr (by simp)), ?_⟩
      clear f0 q1 q2 i1 i2
      generalize chL [s2, s3, s4] _ = Z1 at *
      generalize chN [s2, s3, s4] _ _ = Z2 at *
      try simp only [cast1, Int.natCast_zero, Int.zero_add] at this
      try simp only [Int.natCast_zero, Int.zero_add] at yy
      try simp only [Int.natCast_zero]
      rw [lpB_eq]
      simp only [lp48] at ha yy this ⊢
      simp (maxSteps := 1000000) (disch := first | omega | decide | assumption | simp [scal]) [loadA_eq ia_76, lenA_sl lk_76, o_indexAddrS es_76, loadA_eq ia_71, loadA_eq ia_86, loadA_eq ia_24, ptrB, renB, ha, yy, addWr, ins, this, Int.natCast_zero]
  · by_cases h0 : s = 0
    · subst h0
      have q1 : chL (0 :: [s2, s3, s4]) 0 = chL [s2, s3, s4] 0 := by simp [chL]
      have q2 : chN (0 :: [s2, s3, s4]) 0 0 = chN [s2, s3, s4] 0 0 := by simp [chN]
      obtain ⟨W', i1, i2, this⟩ := f0 0 0 [0] (.inr (.inl ⟨rfl, rfl, rfl⟩)) (by omega)
      have yy := y48z 0 ((0 : Nat) : Int)
      rw [q1, q2]
      refine ⟨W', i1, fun _ => i2 (.inr (by simp)), ?_⟩
      clear f0 q1 q2 i1 i2
      generalize chL [s2, s3, s4] _ = Z1 at *
      generalize chN [s2, s3, s4] _ _ = Z2 at *
      try simp only [cast1, Int.natCast_zero, Int.zero_add] at this
      try simp only [Int.natCast_zero, Int.zero_add] at yy
      try simp only [Int.natCast_zero]
      rw [lpB_eq]
      simp only [lp48] at ha yy this ⊢
      simp (maxSteps := 1000000) (disch := first | omega | decide | assumption | simp [scal]) [loadA_eq ia_76, lenA_sl lk_76, o_indexAddrS es_76, loadA_eq ia_71, loadA_eq ia_86, loadA_eq ia_24, ptrB, renB, ha, yy, addWr, ins, this, Int.natCast_zero]
    · skip
      have q1 : chL (s :: [s2, s3, s4]) 0 = chL [s2, s3, s4] s := by simp [chL, h0]
      have q2 : chN (s :: [s2, s3, s4]) 0 0 = chN [s2, s3, s4] s 0 := by simp [chN, h0]
      obtain ⟨W', i1, i2, this⟩ := f0 s 0 [0, 2] (.inr (.inr (.inl ⟨rfl, rfl⟩))) (by omega)
      have yy := y48b s 0 0 (by omega) h0 rfl
      rw [q1, q2]
      refine ⟨W', i1, fun _ => i2 (.inr (by simp)), ?_⟩
      clear f0 q1 q2 i1 i2
      generalize chL [s2, s3, s4] _ = Z1 at *
      generalize chN [s2, s3, s4] _ _ = Z2 at *
      try simp only [cast1, Int.natCast_zero, Int.zero_add] at this
      try simp only [Int.natCast_zero, Int.zero_add] at yy
      try simp only [Int.natCast_zero]
      rw [lpB_eq]
      simp only [lp48] at ha yy this ⊢
      simp (maxSteps := 1000000) (disch := first | omega | decide | assumption | simp [scal]) [loadA_eq ia_76, lenA_sl lk_76, o_indexAddrS es_76, loadA_eq ia_71, loadA_eq ia_86, loadA_eq ia_24, ptrB, renB, ha, yy, addWr, ins, this, Int.natCast_zero]
  · by_cases h0 : s = 0
    · subst h0
      have q1 : chL (0 :: [s2, s3, s4]) l = chL [s2, s3, s4] l := by simp [chL]
      have q2 : chN (0 :: [s2, s3, s4]) l 0 = chN [s2, s3, s4] l 0 := by simp [chN]
      obtain ⟨W', i1, i2, this⟩ := f0 l 0 [0, 2] (.inr (.inr (.inl ⟨rfl, rfl⟩))) (by omega)
      have yy := y48z l ((0 : Nat) : Int)
      rw [q1, q2]
      refine ⟨W', i1, fun _ => i2 (.inr (by simp)), ?_⟩
      clear f0 q1 q2 i1 i2
      generalize chL [s2, s3, s4] _ = Z1 at *
      generalize chN [s2, s3, s4] _ _ = Z2 at *
      try simp only [cast1, Int.natCast_zero, Int.zero_add] at this
      try simp only [Int.natCast_zero, Int.zero_add] at yy
      try simp only [Int.natCast_zero]
      rw [lpB_eq]
      simp only [lp48] at ha yy this ⊢
      simp (maxSteps := 1000000) (disch := first | omega | decide | assumption | simp [scal]) [loadA_eq ia_76, lenA_sl lk_76, o_indexAddrS es_76, loadA_eq ia_71, loadA_eq ia_86, loadA_eq ia_24, ptrB, renB, ha, yy, addWr, ins, this, Int.natCast_zero]
    · by_cases h1 : l = 0
      · subst h1
        have q1 : chL (s :: [s2, s3, s4]) 0 = chL [s2, s3, s4] s := by simp [chL, h0]
        have q2 : chN (s :: [s2, s3, s4]) 0 0 = chN [s2, s3, s4] s 0 := by simp [chN, h0]
        obtain ⟨W', i1, i2, this⟩ := f0 s 0 [0, 2] (.inr (.inr (.inl ⟨rfl, rfl⟩))) (by omega)
        have yy := y48b s 0 0 (by omega) h0 rfl
        rw [q1, q2]
        refine ⟨W', i1, fun _ => i2 (.inr (by simp)), ?_⟩
        clear f0 q1 q2 i1 i2
        generalize chL [s2, s3, s4] _ = Z1 at *
        generalize chN [s2, s3, s4] _ _ = Z2 at *
        try simp only [cast1, Int.natCast_zero, Int.zero_add] at this
        try simp only [Int.natCast_zero, Int.zero_add] at yy
        try simp only [Int.natCast_zero]
        rw [lpB_eq]
        simp only [lp48] at ha yy this ⊢
        simp (maxSteps := 1000000) (disch := first | omega | decide | assumption | simp [scal]) [loadA_eq ia_76, lenA_sl lk_76, o_indexAddrS es_76, loadA_eq ia_71, loadA_eq ia_86, loadA_eq ia_24, ptrB, renB, ha, yy, addWr, ins, this, Int.natCast_zero]
      · by_cases h2 : s = l
        · skip
          have q1 : chL (s :: [s2, s3, s4]) l = chL [s2, s3, s4] s := by simp [chL, h0, h1, h2]
          have q2 : chN (s :: [s2, s3, s4]) l 0 = chN [s2, s3, s4] s 0 := by simp [chN, h0, h1, h2]
          obtain ⟨W', i1, i2, this⟩ := f0 s 0 [0, 2] (.inr (.inr (.inl ⟨rfl, rfl⟩))) (by omega)
          have yy := y48c s l 0 (by omega) h0 h1 h2
          rw [q1, q2]
          refine ⟨W', i1, fun _ => i2 (.inr (by simp)), ?_⟩
          clear f0 q1 q2 i1 i2
          generalize chL [s2, s3, s4] _ = Z1 at *
          generalize chN [s2, s3, s4] _ _ = Z2 at *
          try simp only [cast1, Int.natCast_zero, Int.zero_add] at this
          try simp only [Int.natCast_zero, Int.zero_add] at yy
          try simp only [Int.natCast_zero]
          rw [lpB_eq]
          simp only [lp48] at ha yy this ⊢
          simp (maxSteps := 1000000) (disch := first | omega | decide | assumption | simp [scal]) [loadA_eq ia_76, lenA_sl lk_76, o_indexAddrS es_76, loadA_eq ia_71, loadA_eq ia_86, loadA_eq ia_24, ptrB, renB, ha, yy, addWr, ins, this, Int.natCast_zero]
        · skip
          have q1 : chL (s :: [s2, s3, s4]) l = chL [s2, s3, s4] s := by simp [chL, h0, h1, h2]
          have q2 : chN (s :: [s2, s3, s4]) l 0 = chN [s2, s3, s4] s (0 + 1) := by simp [chN, h0, h1, h2]
          obtain ⟨W', i1, i2, this⟩ := f0 s (0 + 1) [0, 2, 1] (.inr (.inr (.inr rfl))) (by omega)
          have yy := y48a s l 0 (by omega) h0 h1 h2
          rw [q1, q2]
          refine ⟨W', i1, fun _ => i2 (.inr (by simp)), ?_⟩
          clear f0 q1 q2 i1 i2
          generalize chL [s2, s3, s4] _ = Z1 at *
          generalize chN [s2, s3, s4] _ _ = Z2 at *
          try simp only [cast1, Int.natCast_zero, Int.zero_add] at this
          try simp only [Int.natCast_zero, Int.zero_add] at yy
          try simp only [Int.natCast_zero]
          rw [lpB_eq]
          simp only [lp48] at ha yy this ⊢
          simp (maxSteps := 1000000) (disch := first | omega | decide | assumption | simp [scal]) [loadA_eq ia_76, lenA_sl lk_76, o_indexAddrS es_76, loadA_eq ia_71, loadA_eq ia_86, loadA_eq ia_24, ptrB, renB, ha, yy, addWr, ins, this, Int.natCast_zero]
  · by_cases h0 : s = 0
    · subst h0
      have q1 : chL (0 :: [s2, s3, s4]) l = chL [s2, s3, s4] l := by simp [chL]
      have q2 : chN (0 :: [s2, s3, s4]) l n = chN [s2, s3, s4] l n := by simp [chN]
      obtain ⟨W', i1, i2, this⟩ := f0 l n [0, 2, 1] (.inr (.inr (.inr rfl))) (by omega)
      have yy := y48z l ((n : Nat) : Int)
      rw [q1, q2]
      refine ⟨W', i1, fun _ => i2 (.inr (by simp)), ?_⟩
      clear f0 q1 q2 i1 i2
      generalize chL [s2, s3, s4] _ = Z1 at *
      generalize chN [s2, s3, s4] _ _ = Z2 at *
      try simp only [cast1, Int.natCast_zero, Int.zero_add] at this
      try simp only [Int.natCast_zero, Int.zero_add] at yy
      try simp only [Int.natCast_zero]
      rw [lpB_eq]
      simp only [lp48] at ha yy this ⊢
      simp (maxSteps := 1000000) (disch := first | omega | decide | assumption | simp [scal]) [loadA_eq ia_76, lenA_sl lk_76, o_indexAddrS es_76, loadA_eq ia_71, loadA_eq ia_86, loadA_eq ia_24, ptrB, renB, ha, yy, addWr, ins, this]
    · by_cases h1 : l = 0
      · subst h1
        have q1 : chL (s :: [s2, s3, s4]) 0 = chL [s2, s3, s4] s := by simp [chL, h0]
        have q2 : chN (s :: [s2, s3, s4]) 0 n = chN [s2, s3, s4] s n := by simp [chN, h0]
        obtain ⟨W', i1, i2, this⟩ := f0 s n [0, 2, 1] (.inr (.inr (.inr rfl))) (by omega)
        have yy := y48b s 0 n (by omega) h0 rfl
        rw [q1, q2]
        refine ⟨W', i1, fun _ => i2 (.inr (by simp)), ?_⟩
        clear f0 q1 q2 i1 i2
        generalize chL [s2, s3, s4] _ = Z1 at *
        generalize chN [s2, s3, s4] _ _ = Z2 at *
        try simp only [cast1, Int.natCast_zero, Int.zero_add] at this
        try simp only [Int.natCast_zero, Int.zero_add] at yy
        try simp only [Int.natCast_zero]
        rw [lpB_eq]
        simp only [lp48] at ha yy this ⊢
        simp (maxSteps := 1000000) (disch := first | omega | decide | assumption | simp [scal]) [loadA_eq ia_76, lenA_sl lk_76, o_indexAddrS es_76, loadA_eq ia_71, loadA_eq ia_86, loadA_eq ia_24, ptrB, renB, ha, yy, addWr, ins, this]
      · by_cases h2 : s = l
        · skip
          have q1 : chL (s :: [s2, s3, s4]) l = chL [s2, s3, s4] s := by simp [chL, h0, h1, h2]
          have q2 : chN (s :: [s2, s3, s4]) l n = chN [s2, s3, s4] s n := by simp [chN, h0, h1, h2]
          obtain ⟨W', i1, i2, this⟩ := f0 s n [0, 2, 1] (.inr (.inr (.inr rfl))) (by omega)
          have yy := y48c s l n (by omega) h0 h1 h2
          rw [q1, q2]
          refine ⟨W', i1, fun _ => i2 (.inr (by simp)), ?_⟩
          clear f0 q1 q2 i1 i2
          generalize chL [s2, s3, s4] _ = Z1 at *
          generalize chN [s2, s3, s4] _ _ = Z2 at *
          try simp only [cast1, Int.natCast_zero, Int.zero_add] at this
          try simp only [Int.natCast_zero, Int.zero_add] at yy
          try simp only [Int.natCast_zero]
          rw [lpB_eq]
          simp only [lp48] at ha yy this ⊢
          simp (maxSteps := 1000000) (disch := first | omega | decide | assumption | simp [scal]) [loadA_eq ia_76, lenA_sl lk_76, o_indexAddrS es_76, loadA_eq ia_71, loadA_eq ia_86, loadA_eq ia_24, ptrB, renB, ha, yy, addWr, ins, this]
        · skip
          have q1 : chL (s :: [s2, s3, s4]) l = chL [s2, s3, s4] s := by simp [chL, h0, h1, h2]
          have q2 : chN (s :: [s2, s3, s4]) l n = chN [s2, s3, s4] s (n + 1) := by simp [chN, h0, h1, h2]
          obtain ⟨W', i1, i2, this⟩ := f0 s (n + 1) [0, 2, 1] (.inr (.inr (.inr rfl))) (by omega)
          have yy := y48a s l n (by omega) h0 h1 h2
          rw [q1, q2]
          refine ⟨W', i1, fun _ => i2 (.inr (by simp)), ?_⟩
          clear f0 q1 q2 i1 i2
          generalize chL [s2, s3, s4] _ = Z1 at *
          generalize chN [s2, s3, s4] _ _ = Z2 at *
          try simp only [cast1, Int.natCast_zero, Int.zero_add] at this
          try simp only [Int.natCast_zero, Int.zero_add] at yy
          try simp only [Int.natCast_zero]
          rw [lpB_eq]
          simp only [lp48] at ha yy this ⊢
          simp (maxSteps := 1000000) (disch := first | omega | decide | assumption | simp [scal]) [loadA_eq ia_76, lenA_sl lk_76, o_indexAddrS es_76, loadA_eq ia_71, loadA_eq ia_86, loadA_eq ia_24, ptrB, renB, ha, yy, addWr, ins, this]
theorem c75_4 : ∃ ws, ((ws = [(0, .loop (lp48 1 2 3))] ∧ chL [s1, s2, s3, s4] 0 = 0 ∧ chN [s1, s2, s3, s4] 0 0 = 0) ∨ (ws = [(0, .loop (lp48 1 2 3)), (2, c1 (chL [s1, s2, s3, s4] 0))] ∧ chN [s1, s2, s3, s4] 0 0 = 0) ∨ ws = [(0, .loop (lp48 1 2 3)), (2, c1 (chL [s1, s2, s3, s4] 0)), (1, c1 ((chN [s1, s2, s3, s4] 0 0 : Nat) : Int))]) ∧
    LL.run 75 [.func (.yield 0) #[] #[], pp 4, pp 10, pp 11] [.loop (lp48 1 2 3), c1 0, c1 0, c1 0, bxP 5 4 c, .cells [sl 6 0 n1 d1, sl 7 0 n2 d2, sl 8 0 n3 d3, sl 9 0 n4 d4] 1 false true, .cells cs1 1 true own1, .cells cs2 1 true own2, .cells cs3 1 true own3, .cells cs4 1 true own4, .cells [.func (.func 38) #[] #[]] 1 false true, bxR x y] = some ⟨.tuple #[], [], ws⟩ := by
  obtain ⟨W', i1, i2, this⟩ := l75_4_0 x y c n1 d1 n2 d2 n3 d3 n4 d4 s1 s2 s3 s4 ha1 ha2 ha3 ha4 0 0 [] (.inl ⟨rfl, rfl, rfl⟩) (Nat.le_refl _)
  have i2 := i2 (.inl (by omega))
  simp only [Int.natCast_zero] at this
  clear ha1 ha2 ha3 ha4
  generalize chL [s1, s2, s3, s4] 0 = Z1 at *
  generalize chN [s1, s2, s3, s4] 0 0 = Z2 at *
  rcases i1 with ⟨rfl, rfl, rfl⟩ | ⟨rfl, rfl, rfl⟩ | ⟨rfl, rfl⟩ | rfl
  · exact absurd rfl i2
  · refine ⟨_, .inl ⟨rfl, rfl, rfl⟩, go (by decide) ?_⟩
    rw [run75 _ _ _ (by simp)]
    simp only [lp48] at this ⊢
    simp (maxSteps := 1000000) (disch := first | omega | decide | assumption | simp [scal]) [loadA_eq ia_76, lenA_sl lk_76, o_indexAddrS es_76, loadA_eq ia_71, loadA_eq ia_86, loadA_eq ia_24, ptrB, renB, this, endS_normal]
  · refine ⟨_, .inr (.inl ⟨rfl, rfl⟩), go (by decide) ?_⟩
    rw [run75 _ _ _ (by simp)]
    simp only [lp48] at this ⊢
    simp (maxSteps := 1000000) (disch := first | omega | decide | assumption | simp [scal]) [loadA_eq ia_76, lenA_sl lk_76, o_indexAddrS es_76, loadA_eq ia_71, loadA_eq ia_86, loadA_eq ia_24, ptrB, renB, this, endS_normal]
  · refine ⟨_, .inr (.inr rfl), go (by decide) ?_⟩
    rw [run75 _ _ _ (by simp)]
    simp only [lp48] at this ⊢
    simp (maxSteps := 1000000) (disch := first | omega | decide | assumption | simp [scal]) [loadA_eq ia_76, lenA_sl lk_76, o_indexAddrS es_76, loadA_eq ia_71, loadA_eq ia_86, loadA_eq ia_24, ptrB, renB, this, endS_normal]
theorem h75_4 : ∃ W, (W = [11] ∨ W = [11, 9] ∨ W = [11, 9, 10]) ∧
    callH LL 75 [.func (.yield 11) #[] #[], pp 0, pp 6, pp 7] [bxP 1 4 c, .cells [sl 2 0 n1 d1, sl 3 0 n2 d2, sl 4 0 n3 d3, sl 5 0 n4 d4] 1 false true, .cells cs1 1 true own1, .cells cs2 1 true own2, .cells cs3 1 true own3, .cells cs4 1 true own4, .cells [.func (.func 38) #[] #[]] 1 false true, bxR x y, c1 0, c1 0, c1 0, .loop (lp48 10 9 8)] = some ⟨.tuple #[], [bxP 1 4 c, .cells [sl 2 0 n1 d1, sl 3 0 n2 d2, sl 4 0 n3 d3, sl 5 0 n4 d4] 1 false true, .cells cs1 1 true own1, .cells cs2 1 true own2, .cells cs3 1 true own3, .cells cs4 1 true own4, .cells [.func (.func 38) #[] #[]] 1 false true, bxR x y, c1 0, c1 (chL [s1, s2, s3, s4] 0), c1 ((chN [s1, s2, s3, s4] 0 0 : Nat) : Int), .loop (lp48 10 9 8)], [11, 10, 9, 8, 0, 1, 2, 3, 4, 5, 6, 7], W⟩ := by
  obtain ⟨ws, hw, e⟩ := c75_4 x y c n1 d1 n2 d2 n3 d3 n4 d4 s1 s2 s3 s4 ha1 ha2 ha3 ha4
  clear ha1 ha2 ha3 ha4
  have hm : ∀ q : Nat, 30 < q → reach [bxP 1 4 c, .cells [sl 2 0 n1 d1, sl 3 0 n2 d2, sl 4 0 n3 d3, sl 5 0 n4 d4] 1 false true, .cells cs1 1 true own1, .cells cs2 1 true own2, .cells cs3 1 true own3, .cells cs4 1 true own4, .cells [.func (.func 38) #[] #[]] 1 false true, bxR x y, c1 0, c1 0, c1 0, .loop (lp48 10 9 8)] 0 q [11, 0, 6, 7] [] = [11, 10, 9, 8, 0, 1, 2, 3, 4, 5, 6, 7] := by
    intro q hq
    obtain ⟨q, rfl⟩ : ∃ j, q = j + 30 := ⟨q - 30, by omega⟩
    simp [reach_cons, reachC_t, reachC_f, reach_nil, rootsB, GE.mem, nblt, nbeq, ptrB, lp48, ptrT, ptrV_ptr, ptrV_sl, ptrV_int, dep]
  have hpp : ([.func (.yield 11) #[] #[], pp 0, pp 6, pp 7] : List Value).flatMap (ptrV dep) = [11, 0, 6, 7] := rfl
  generalize chL [s1, s2, s3, s4] 0 = Z1 at *
  generalize chN [s1, s2, s3, s4] 0 0 = Z2 at *
  rcases hw with ⟨rfl, rfl, rfl⟩ | ⟨rfl, rfl⟩ | rfl
  · refine ⟨_, .inl rfl, callH_of (by intro _; first | trivial | rfl) ?_ (by simp)⟩
    unfold callH0
    simp only [hpp, hm reachN (by decide)]
    simp only [lp48] at e ⊢
    simp [optAll, renV_func, renFn, renL, renV_ptr, dep, idx, nbeq, renB, renT, renL_eq, renV_int, renV_sl, e, mergeB, renV_tuple, nblt]
  · refine ⟨_, .inr (.inl rfl), callH_of (by intro _; first | trivial | rfl) ?_ (by simp)⟩
    unfold callH0
    simp only [hpp, hm reachN (by decide)]
    simp only [lp48] at e ⊢
    simp [optAll, renV_func, renFn, renL, renV_ptr, dep, idx, nbeq, renB, renT, renL_eq, renV_int, renV_sl, e, mergeB, renV_tuple, nblt]
  · refine ⟨_, .inr (.inr rfl), callH_of (by intro _; first | trivial | rfl) ?_ (by simp)⟩
    unfold callH0
    simp only [hpp, hm reachN (by decide)]
    simp only [lp48] at e ⊢
    simp [optAll, renV_func, renFn, renL, renV_ptr, dep, idx, nbeq, renB, renT, renL_eq, renV_int, renV_sl, e, mergeB, renV_tuple, nblt]
theorem r48_4 : LL.run 48 [.func (.func 75) #[] #[pp 0, pp 6, pp 7]] [bxP 1 4 c, .cells [sl 2 0 n1 d1, sl 3 0 n2 d2, sl 4 0 n3 d3, sl 5 0 n4 d4] 1 false true, .cells cs1 1 true own1, .cells cs2 1 true own2, .cells cs3 1 true own3, .cells cs4 1 true own4, .cells [.func (.func 38) #[] #[]] 1 false true, bxR x y] = some ⟨iv (chN [s1, s2, s3, s4] 0 0 : Nat), [], []⟩ := by
  obtain ⟨W, hW, e⟩ := h75_4 x y c n1 d1 n2 d2 n3 d3 n4 d4 s1 s2 s3 s4 ha1 ha2 ha3 ha4
  clear ha1 ha2 ha3 ha4
  generalize chL [s1, s2, s3, s4] 0 = Z1 at *
  generalize chN [s1, s2, s3, s4] 0 0 = Z2 at *
  refine go (by decide) ?_
  simp only [lp48] at e
  rw [run48 _ _ _ (by simp)]
  simp (maxSteps := 1000000) (disch := first | omega | decide | assumption | simp [scal]) [za_3, sz_3, loadA_eq ia_3, want_some q48_21g3]
  rw [range_step n48_10e n48_10k rfl]
  rcases hW with rfl | rfl | rfl
  all_goals
    simp (maxSteps := 1000000) (disch := first | omega | decide | assumption | simp [scal]) [za_3, sz_3, loadA_eq ia_3, want_some q48_21g3, e]
    rw [rangeE_ready rfl rfl rfl]
    simp (maxSteps := 1000000) (disch := first | omega | decide | assumption | simp [scal]) [za_3, sz_3, loadA_eq ia_3, want_some q48_21g3, addWr]
end
section
variable (c d1 d2 d3 d4 : Nat) {cs1 cs2 cs3 cs4 : List Value} {own1 own2 own3 own4 : Bool} {p1 p2 p3 p4 : List Int} (hp1 : PoC cs1 p1) (h01 : 0 < p1.length) (h61 : p1.length ≤ 60) (hp2 : PoC cs2 p2) (h02 : 0 < p2.length) (h62 : p2.length ≤ 60) (hp3 : PoC cs3 p3) (h03 : 0 < p3.length) (h63 : p3.length ≤ 60) (hp4 : PoC cs4 p4) (h04 : 0 < p4.length) (h64 : p4.length ≤ 60)
include hp1 h01 h61 hp2 h02 h62 hp3 h03 h63 hp4 h04 h64
theorem k48_4 (z1 z2 : Blk) (x y : Int) (hb1 : evB x y p1.reverse 0 1 = true) (hb2 : evB x y p2.reverse 0 1 = true) (hb3 : evB x y p3.reverse 0 1 = true) (hb4 : evB x y p4.reverse 0 1 = true) (rest : List Blk) : callH LL 48 [.func (.func 75) #[] #[pp 7, pp 8, pp 9]] (.cells [sl 1 0 p1.length d1, sl 2 0 p2.length d2, sl 3 0 p3.length d3, sl 4 0 p4.length d4] 1 false true :: .cells cs1 1 true own1 :: .cells cs2 1 true own2 :: .cells cs3 1 true own3 :: .cells cs4 1 true own4 :: z1 :: z2 :: bxP 0 4 c :: .cells [.func (.func 38) #[] #[]] 1 false true :: bxR x y :: rest) =
    some ⟨iv (chN [sgP p1 x y, sgP p2 x y, sgP p3 x y, sgP p4 x y] 0 0 : Nat), .cells [sl 1 0 p1.length d1, sl 2 0 p2.length d2, sl 3 0 p3.length d3, sl 4 0 p4.length d4] 1 false true :: .cells cs1 1 true own1 :: .cells cs2 1 true own2 :: .cells cs3 1 true own3 :: .cells cs4 1 true own4 :: z1 :: z2 :: bxP 0 4 c :: .cells [.func (.func 38) #[] #[]] 1 false true :: bxR x y :: rest, [7, 0, 1, 2, 3, 4, 8, 9], []⟩ := by
  have e := r48_4 x y c p1.length d1 p2.length d2 p3.length d3 p4.length d4 (cs1 := cs1) (sgP p1 x y) (sgP p2 x y) (sgP p3 x y) (sgP p4 x y) (own1 := own1) (own2 := own2) (own3 := own3) (own4 := own4) (fun l n => k38 6 d1 rfl hp1 h01 h61 x y hb1) (fun l n => k38 7 d2 rfl hp2 h02 h62 x y hb2) (fun l n => k38 8 d3 rfl hp3 h03 h63 x y hb3) (fun l n => k38 9 d4 rfl hp4 h04 h64 x y hb4)
  generalize chN _ 0 0 = Z2 at *
  have hm : ∀ q : Nat, 30 < q → reach (.cells [sl 1 0 p1.length d1, sl 2 0 p2.length d2, sl 3 0 p3.length d3, sl 4 0 p4.length d4] 1 false true :: .cells cs1 1 true own1 :: .cells cs2 1 true own2 :: .cells cs3 1 true own3 :: .cells cs4 1 true own4 :: z1 :: z2 :: bxP 0 4 c :: .cells [.func (.func 38) #[] #[]] 1 false true :: bxR x y :: rest) 0 q [7, 8, 9] [] = [7, 0, 1, 2, 3, 4, 8, 9] := by
    intro q hq
    obtain ⟨q, rfl⟩ : ∃ j, q = j + 30 := ⟨q - 30, by omega⟩
    simp [reach_cons, reachC_t, reachC_f, reach_nil, rootsB, GE.mem, nblt, nbeq, ptrB, ptrT, ptrV_ptr, ptrV_sl, ptrV_int, ptrV_func, ptrFn, ptrL, dep]
  have hpp : ([.func (.func 75) #[] #[pp 7, pp 8, pp 9]] : List Value).flatMap (ptrV dep) = [7, 8, 9] := rfl
  refine callH_of (by intro _; first | trivial | rfl) ?_ (by simp)
  unfold callH0
  simp only [hpp, hm reachN (by decide)]
  simp [optAll, renV_func, renFn, renL, renV_ptr, dep, idx, nbeq, renB, renT, renL_eq, renV_int, renV_sl, e, mergeB, renV_tuple, nblt]
theorem k48b_4 (z1 z2 z3 z4 z5 : Blk) (x y : Int) (hb1 : evB x y p1.reverse 0 1 = true) (hb2 : evB x y p2.reverse 0 1 = true) (hb3 : evB x y p3.reverse 0 1 = true) (hb4 : evB x y p4.reverse 0 1 = true) (rest : List Blk) : callH LL 48 [.func (.func 75) #[] #[pp 10, pp 11, pp 12]] (.cells [sl 1 0 p1.length d1, sl 2 0 p2.length d2, sl 3 0 p3.length d3, sl 4 0 p4.length d4] 1 false true :: .cells cs1 1 true own1 :: .cells cs2 1 true own2 :: .cells cs3 1 true own3 :: .cells cs4 1 true own4 :: z1 :: z2 :: z3 :: z4 :: z5 :: bxP 0 4 c :: .cells [.func (.func 38) #[] #[]] 1 false true :: bxR x y :: rest) =
    some ⟨iv (chN [sgP p1 x y, sgP p2 x y, sgP p3 x y, sgP p4 x y] 0 0 : Nat), .cells [sl 1 0 p1.length d1, sl 2 0 p2.length d2, sl 3 0 p3.length d3, sl 4 0 p4.length d4] 1 false true :: .cells cs1 1 true own1 :: .cells cs2 1 true own2 :: .cells cs3 1 true own3 :: .cells cs4 1 true own4 :: z1 :: z2 :: z3 :: z4 :: z5 :: bxP 0 4 c :: .cells [.func (.func 38) #[] #[]] 1 false true :: bxR x y :: rest, [10, 0, 1, 2, 3, 4, 11, 12], []⟩ := by
  have e := r48_4 x y c p1.length d1 p2.length d2 p3.length d3 p4.length d4 (cs1 := cs1) (sgP p1 x y) (sgP p2 x y) (sgP p3 x y) (sgP p4 x y) (own1 := own1) (own2 := own2) (own3 := own3) (own4 := own4) (fun l n => k38 6 d1 rfl hp1 h01 h61 x y hb1) (fun l n => k38 7 d2 rfl hp2 h02 h62 x y hb2) (fun l n => k38 8 d3 rfl hp3 h03 h63 x y hb3) (fun l n => k38 9 d4 rfl hp4 h04 h64 x y hb4)
  generalize chN _ 0 0 = Z2 at *
  have hm : ∀ q : Nat, 30 < q → reach (.cells [sl 1 0 p1.length d1, sl 2 0 p2.length d2, sl 3 0 p3.length d3, sl 4 0 p4.length d4] 1 false true :: .cells cs1 1 true own1 :: .cells cs2 1 true own2 :: .cells cs3 1 true own3 :: .cells cs4 1 true own4 :: z1 :: z2 :: z3 :: z4 :: z5 :: bxP 0 4 c :: .cells [.func (.func 38) #[] #[]] 1 false true :: bxR x y :: rest) 0 q [10, 11, 12] [] = [10, 0, 1, 2, 3, 4, 11, 12] := by
    intro q hq
    obtain ⟨q, rfl⟩ : ∃ j, q = j + 30 := ⟨q - 30, by omega⟩
    simp [reach_cons, reachC_t, reachC_f, reach_nil, rootsB, GE.mem, nblt, nbeq, ptrB, ptrT, ptrV_ptr, ptrV_sl, ptrV_int, ptrV_func, ptrFn, ptrL, dep]
  have hpp : ([.func (.func 75) #[] #[pp 10, pp 11, pp 12]] : List Value).flatMap (ptrV dep) = [10, 11, 12] := rfl
  refine callH_of (by intro _; first | trivial | rfl) ?_ (by simp)
  unfold callH0
  simp only [hpp, hm reachN (by decide)]
  simp [optAll, renV_func, renFn, renL, renV_ptr, dep, idx, nbeq, renB, renT, renL_eq, renV_int, renV_sl, e, mergeB, renV_tuple, nblt]
theorem k49_4 (x y : Int) (rest : List Blk) : callH LL 49 [sl 0 0 4 c, .agg #[iv x, iv y], .func (.func 38) #[] #[]] (.cells [sl 1 0 p1.length d1, sl 2 0 p2.length d2, sl 3 0 p3.length d3, sl 4 0 p4.length d4] 1 false true :: .cells cs1 1 true own1 :: .cells cs2 1 true own2 :: .cells cs3 1 true own3 :: .cells cs4 1 true own4 :: rest) =
    some ⟨.func (.func 75) #[] #[pp (rest.length + 5), pp (rest.length + 6), pp (rest.length + 7)], .cells [sl 1 0 p1.length d1, sl 2 0 p2.length d2, sl 3 0 p3.length d3, sl 4 0 p4.length d4] 1 false true :: .cells cs1 1 true own1 :: .cells cs2 1 true own2 :: .cells cs3 1 true own3 :: .cells cs4 1 true own4 :: (rest ++ [bxP 0 4 c, .cells [.func (.func 38) #[] #[]] 1 false true, bxR x y]), [0, 1, 2, 3, 4], []⟩ := by
  have e : LL.run 49 [sl 0 0 4 c, .agg #[iv x, iv y], .func (.func 38) #[] #[]] [.cells [sl 1 0 p1.length d1, sl 2 0 p2.length d2, sl 3 0 p3.length d3, sl 4 0 p4.length d4] 1 false true, .cells cs1 1 true own1, .cells cs2 1 true own2, .cells cs3 1 true own3, .cells cs4 1 true own4] = some ⟨.func (.func 75) #[] #[pp 5, pp 6, pp 7], [bxP 0 4 c, .cells [.func (.func 38) #[] #[]] 1 false true, bxR x y], []⟩ := by
    refine go (by decide) ?_
    rw [run49 _ _ _ (by simp)]
    simp (maxSteps := 1000000) (disch := first | omega | decide | assumption | simp [scal])
  have hm : ∀ q : Nat, 30 < q → reach (.cells [sl 1 0 p1.length d1, sl 2 0 p2.length d2, sl 3 0 p3.length d3, sl 4 0 p4.length d4] 1 false true :: .cells cs1 1 true own1 :: .cells cs2 1 true own2 :: .cells cs3 1 true own3 :: .cells cs4 1 true own4 :: rest) 0 q [0] [] = [0, 1, 2, 3, 4] := by
    intro q hq
    obtain ⟨q, rfl⟩ : ∃ j, q = j + 30 := ⟨q - 30, by omega⟩
    simp [reach_cons, reachC_t, reachC_f, reach_nil, rootsB, GE.mem, nblt, nbeq, ptrB, ptrT, ptrV_ptr, ptrV_sl, ptrV_int, ptrV_func, ptrFn, ptrL, dep]
  have hpp : ([sl 0 0 4 c, .agg #[iv x, iv y], .func (.func 38) #[] #[]] : List Value).flatMap (ptrV dep) = [0] := rfl
  refine callH_of (by intro _; first | trivial | rfl) ?_ (by simp)
  unfold callH0
  simp only [hpp, hm reachN (by decide)]
  simp [optAll, renV_func, renFn, renL, renV_ptr, renV_agg, dep, idx, nbeq, renB, renT, renL_eq, renV_int, renV_sl, e, mergeB, renV_tuple, nblt]
theorem r52_4 (x y u v : Int) (hb1 : evB x y p1.reverse 0 1 = true) (hb2 : evB x y p2.reverse 0 1 = true) (hb3 : evB x y p3.reverse 0 1 = true) (hb4 : evB x y p4.reverse 0 1 = true) (hb1b : evB u v p1.reverse 0 1 = true) (hb2b : evB u v p2.reverse 0 1 = true) (hb3b : evB u v p3.reverse 0 1 = true) (hb4b : evB u v p4.reverse 0 1 = true) : LL.run 52 [sl 0 0 4 c, .agg #[iv x, iv y], .agg #[iv u, iv v]] [.cells [sl 1 0 p1.length d1, sl 2 0 p2.length d2, sl 3 0 p3.length d3, sl 4 0 p4.length d4] 1 false true, .cells cs1 1 true own1, .cells cs2 1 true own2, .cells cs3 1 true own3, .cells cs4 1 true own4] =
    some ⟨iv ((chN [sgP p1 x y, sgP p2 x y, sgP p3 x y, sgP p4 x y] 0 0 : Nat) - (chN [sgP p1 u v, sgP p2 u v, sgP p3 u v, sgP p4 u v] 0 0 : Nat) : Int), [], []⟩ := by
  have a1 := fun R => k49_4 c d1 d2 d3 d4 (own1 := own1) (own2 := own2) (own3 := own3) (own4 := own4) hp1 h01 h61 hp2 h02 h62 hp3 h03 h63 hp4 h04 h64 x y R
  have a2 := fun z1 z2 R => k48_4 c d1 d2 d3 d4 (own1 := own1) (own2 := own2) (own3 := own3) (own4 := own4) hp1 h01 h61 hp2 h02 h62 hp3 h03 h63 hp4 h04 h64 z1 z2 x y hb1 hb2 hb3 hb4 R
  have a3 := fun R => k49_4 c d1 d2 d3 d4 (own1 := own1) (own2 := own2) (own3 := own3) (own4 := own4) hp1 h01 h61 hp2 h02 h62 hp3 h03 h63 hp4 h04 h64 u v R
  have a4 := fun z1 z2 z3 z4 z5 R => k48b_4 c d1 d2 d3 d4 (own1 := own1) (own2 := own2) (own3 := own3) (own4 := own4) hp1 h01 h61 hp2 h02 h62 hp3 h03 h63 hp4 h04 h64 z1 z2 z3 z4 z5 u v hb1b hb2b hb3b hb4b R
  have b1 := chN_le [sgP p1 x y, sgP p2 x y, sgP p3 x y, sgP p4 x y] 0 0
  have b2 := chN_le [sgP p1 u v, sgP p2 u v, sgP p3 u v, sgP p4 u v] 0 0
  simp only [List.length_cons, List.length_nil] at b1 b2
  clear hp1 h01 h61 hp2 h02 h62 hp3 h03 h63 hp4 h04 h64 hb1 hb1b hb2 hb2b hb3 hb3b hb4 hb4b
  generalize chN [sgP p1 x y, sgP p2 x y, sgP p3 x y, sgP p4 x y] 0 0 = N1 at *
  generalize chN [sgP p1 u v, sgP p2 u v, sgP p3 u v, sgP p4 u v] 0 0 = N2 at *
  refine go (by decide) ?_
  rw [run52 _ _ _ (by simp)]
  simp (maxSteps := 1000000) (disch := first | omega | decide | assumption | simp [scal]) [loadA_eq ia_24, a1, a2, a3, a4]
end
end Go.Proofs.Ytkmompbfcgjgmaa.nt
namespace Go.Proofs.Ytkmompbfcgjgmaa.nt
open Go.GE
set_option linter.unusedVariables false
set_option linter.unusedSimpArgs false
set_option linter.unusedSectionVars false
set_option maxRecDepth 100000
set_option maxHeartbeats 4000000
attribute [local simp] runOps_nil runOps_cons runOpsF_nil runOpsF_cons fstS_some fstF_some opStep_eq want_none oStep_true oStep_false fin_pure fin_read fin_alloc fin_write storeB wrN cellV addWr o_move o_assign o_pick o_alloc o_box o_load o_store o_nilCheck o_bin o_un o_extract o_callV o_callB o_callI callV_f callV_y callV_fc o_makeFunc partsA Instr.fill builtin_len builtin_max2 bin_add bin_sub bin_mul bin_quo bin_rem bin_lss bin_leq bin_gtr bin_geq bin_eql bin_neq un_neg un_not bin_shr bin_shl wrap_u64_id opd opds optAll putO nbeq nblt constOk isC ops sub cl cr co bodyOf thenS_normal thenS_ret thenS_exit thenS_goto afterN_normal afterN_ret afterN_exit afterN_goto condS_true condS_false blockS_normal blockS_ret blockS_exit blockS_goto headS normS normK_eq fixS_nil fixS_cons fix1 fixV emptyB keepO_nil keepO_cons roundC_normal roundC_exit roundC_ret roundC_goto sweep_eq sweepD rnm pickR pickW rootsB ptrT renT ptrFn renFn ptrB_flat ptrB_non renB_flat renB_non plainS_some drawS_some fpsOk disj unord range' dropTo enumT undef wrap_i64_id Value.cells mkCells ptrTo scal cellsAt rdN endS_ret resultsA Option.bind_some tupV finish reachN dep ptrL_eq ptrL renL_eq renL ptrV_bool ptrV_int ptrV_string ptrV_nilFunc ptrV_nilIface ptrV_nilPtr ptrV_ptr ptrV_nilSl ptrV_sl ptrV_iface ptrV_agg ptrV_tuple ptrV_func renV_bool renV_int renV_string renV_nilFunc renV_nilIface renV_nilPtr renV_ptr renV_nilSl renV_sl renV_iface renV_agg renV_tuple renV_func gotoS_goto gotoS_normal gotoS_exit gotoS_ret skip_seq sliceE bnd bndHi intOf optOpd keepT_nil keepT_cons keepC_t keepC_f lk_nil lk_cons lkC_t lkC_f has_nil has_cons hasC_t hasC_f rep_nil rep_cons repC_t repC_f put_eq putC_t putC_f mem_nil mem_cons memC_t memC_f idx_nil idx_cons idxC_t idxC_f reach_nil reachP_cons reachQ_t reachQ_f ptrB_dead renB_dead ins_eq
attribute [local simp] n79_1s n79_3s n79_4s n79_2s n79_0s Try.f79 n70_1s n70_4s n70_7s n70_8s n70_6s n70_9s n70_5s n70_3s n70_11s n70_13s n70_14s n70_12s n70_10s n70_2s n70_0s Try.f70
/-- a call whose new blocks hold ids -/
theorem callP_2 {f : FuncId} {args args' : List Value} {v v' : Value} {news news' : List Blk} {h : List Blk} {b1 b2 : Nat} {k1 k2 : Blk} (hp : args.flatMap (ptrV dep) = [b1, b2]) (hb1 : h[b1]? = some k1) (hb2 : h[b2]? = some k2) (hne : b1 ≠ b2) (hn1 : noIdB k1) (hn2 : noIdB k2)
    (hr : optAll (renV (idx [b1, b2]) dep) args = some args') (he : LL.run f args' [k1, k2] = some ⟨v, news, []⟩) (hn : optAll (renB (fun c => cond (Nat.blt c 2) ([b1, b2][c]?) (some (h.length + (c - 2))))) news = some news')
    (hv : renV (fun c => cond (Nat.blt c 2) ([b1, b2][c]?) (some (h.length + (c - 2)))) dep v = some v') (hk : idle LL f args := by intro _; first | trivial | rfl) : callH LL f args h = some ⟨v', h ++ news', [b1, b2], []⟩ := by
  refine callH_of hk ?_ (by have g1 := (List.getElem?_eq_some_iff.1 hb1).1; have g2 := (List.getElem?_eq_some_iff.1 hb2).1; intro b hb; simp at hb; rcases hb with rfl | rfl <;> assumption)
  unfold callH0
  rw [hp, reach_two hb1 hb2 hne hn1.2 hn2.2 (by decide)]
  simp only [hr, optAll, hb1, hb2, hn1.1, hn2.1, he]
  unfold mergeB
  simp only [hv, optAll, List.foldl_nil, List.map_nil]
  rw [show optAll (renB fun b => cond (Nat.blt b [b1, b2].length) ([b1, b2][b]?) (some (h.length + (b - [b1, b2].length)))) news = some news' from hn, show renV (fun b => cond (Nat.blt b [b1, b2].length) ([b1, b2][b]?) (some (h.length + (b - [b1, b2].length)))) dep v = some v' from hv]
  rfl
theorem callP_1 {f : FuncId} {args args' : List Value} {v v' : Value} {news news' : List Blk} {h : List Blk} {b1 : Nat} {k1 : Blk} (hp : args.flatMap (ptrV dep) = [b1]) (hb1 : h[b1]? = some k1) (hn1 : noIdB k1)
    (hr : optAll (renV (idx [b1]) dep) args = some args') (he : LL.run f args' [k1] = some ⟨v, news, []⟩) (hn : optAll (renB (fun c => cond (Nat.blt c 1) ([b1][c]?) (some (h.length + (c - 1))))) news = some news')
    (hv : renV (fun c => cond (Nat.blt c 1) ([b1][c]?) (some (h.length + (c - 1)))) dep v = some v') (hk : idle LL f args := by intro _; first | trivial | rfl) : callH LL f args h = some ⟨v', h ++ news', [b1], []⟩ := by
  refine callH_of hk ?_ (by simpa using (List.getElem?_eq_some_iff.1 hb1).1)
  unfold callH0
  rw [hp, reach_one hb1 hn1.2 (by decide)]
  simp only [hr, optAll, hb1, hn1.1, he]
  unfold mergeB
  simp only [hv, optAll, List.foldl_nil, List.map_nil]
  rw [show optAll (renB fun b => cond (Nat.blt b [b1].length) ([b1][b]?) (some (h.length + (b - [b1].length)))) news = some news' from hn, show renV (fun b => cond (Nat.blt b [b1].length) ([b1][b]?) (some (h.length + (b - [b1].length)))) dep v = some v' from hv]
  rfl
theorem app_2 {h : List Blk} {b c : Nat} {v : Value} {a1 a2 : Value} {fl : Bool} {rd : List Nat} (h1 : cellV a1 = true) (h2 : cellV a2 = true) : appS h 1 24 b 0 1 c (some (.cells [v] 1 false true)) (some (2, [a1, a2], fl, rd)) = some ⟨.slice (some ⟨h.length, 0, none⟩) 3 3, h.set b .dead ++ [.cells [v, a1, a2] 1 false true], b :: rd, [b]⟩ := by
  have hr := rdN_all [v] 1 0 (by simp)
  simp only [appS, Nat.mul_one, hr, List.drop_zero, List.all_cons, List.all_nil, h1, h2]
  rw [if_pos (by refine ⟨by decide, by decide, trivial, rfl⟩)]
  rfl
theorem app_3 {h : List Blk} {b c : Nat} {v : Value} {a1 a2 a3 : Value} {fl : Bool} {rd : List Nat} (h1 : cellV a1 = true) (h2 : cellV a2 = true) (h3 : cellV a3 = true) : appS h 1 24 b 0 1 c (some (.cells [v] 1 false true)) (some (3, [a1, a2, a3], fl, rd)) = some ⟨.slice (some ⟨h.length, 0, none⟩) 4 4, h.set b .dead ++ [.cells [v, a1, a2, a3] 1 false true], b :: rd, [b]⟩ := by
  have hr := rdN_all [v] 1 0 (by simp)
  simp only [appS, Nat.mul_one, hr, List.drop_zero, List.all_cons, List.all_nil, h1, h2, h3]
  rw [if_pos (by refine ⟨by decide, by decide, trivial, rfl⟩)]
  rfl
section
variable (n1 d1 n2 d2 n3 d3 n4 d4 : Nat)
theorem r79_2 (B1 B2 B3 : Blk) : LL.run 79 [sl 0 0 1 1, sl 2 0 2 2] [.cells [sl 1 0 n1 d1] 1 false true, B1, .cells [sl 3 0 n2 d2, sl 4 0 n3 d3] 1 false true, B2, B3] =
    some ⟨sl 5 0 3 3, [.cells [sl 1 0 n1 d1, sl 3 0 n2 d2, sl 4 0 n3 d3] 1 false true], [(0, .dead)]⟩ := by
  refine go (by decide) ?_
  have a := fun hp rd => app_2 (h := hp) (b := 0) (c := 1) (v := sl 1 0 n1 d1) (a1 := sl 3 0 n2 d2) (a2 := sl 4 0 n3 d3) (fl := false) (rd := rd) rfl rfl
  rw [run79 _ _ _ (by simp)]
  simp (maxSteps := 1000000) (disch := first | omega | decide | assumption | simp [scal]) [ap_76, builtin_append ni_76, append_some ap_76, srcCells, a]
theorem r79_3 (B1 B2 B3 B4 : Blk) : LL.run 79 [sl 0 0 1 1, sl 2 0 3 3] [.cells [sl 1 0 n1 d1] 1 false true, B1, .cells [sl 3 0 n2 d2, sl 4 0 n3 d3, sl 5 0 n4 d4] 1 false true, B2, B3, B4] =
    some ⟨sl 6 0 4 4, [.cells [sl 1 0 n1 d1, sl 3 0 n2 d2, sl 4 0 n3 d3, sl 5 0 n4 d4] 1 false true], [(0, .dead)]⟩ := by
  refine go (by decide) ?_
  have a := fun hp rd => app_3 (h := hp) (b := 0) (c := 1) (v := sl 1 0 n1 d1) (a1 := sl 3 0 n2 d2) (a2 := sl 4 0 n3 d3) (a3 := sl 5 0 n4 d4) (fl := false) (rd := rd) rfl rfl rfl
  rw [run79 _ _ _ (by simp)]
  simp (maxSteps := 1000000) (disch := first | omega | decide | assumption | simp [scal]) [ap_76, builtin_append ni_76, append_some ap_76, srcCells, a]
theorem h79_2 (P O q r R : List Value) (o1 o2 : Bool) : callH LL 79 [sl 4 0 1 1, sl 6 0 2 2] [.cells P 1 true o1, .cells O 1 true o2, .cells q 1 true true, .cells r 1 true true, .cells [sl 0 0 n1 d1] 1 false true, .cells R 1 true true, .cells [sl 1 0 n2 d2, sl 5 0 n3 d3] 1 false true] =
    some ⟨sl 7 0 3 3, [.cells P 1 true o1, .cells O 1 true o2, .cells q 1 true true, .cells r 1 true true, .dead, .cells R 1 true true, .cells [sl 1 0 n2 d2, sl 5 0 n3 d3] 1 false true, .cells [sl 0 0 n1 d1, sl 1 0 n2 d2, sl 5 0 n3 d3] 1 false true], [4, 0, 6, 1, 5], [4]⟩ := by
  have e := r79_2 n1 d1 n2 d2 n3 d3 (.cells P 1 true o1) (.cells O 1 true o2) (.cells R 1 true true)
  have hm : ∀ q' : Nat, 30 < q' → reach [.cells P 1 true o1, .cells O 1 true o2, .cells q 1 true true, .cells r 1 true true, .cells [sl 0 0 n1 d1] 1 false true, .cells R 1 true true, .cells [sl 1 0 n2 d2, sl 5 0 n3 d3] 1 false true] 0 q' [4, 6] [] = [4, 0, 6, 1, 5] := by
    intro q hq
    obtain ⟨q, rfl⟩ : ∃ j, q = j + 30 := ⟨q - 30, by omega⟩
    simp [reach_cons, reachC_t, reachC_f, reach_nil, rootsB, GE.mem, nblt, nbeq, ptrB, ptrT, ptrV_ptr, ptrV_sl, ptrV_int, ptrL, dep]
  have hpp : ([sl 4 0 1 1, sl 6 0 2 2] : List Value).flatMap (ptrV dep) = [4, 6] := rfl
  refine callH_of (by intro _; first | trivial | rfl) ?_ (by simp)
  unfold callH0
  simp only [hpp, hm reachN (by decide)]
  simp [optAll, renV_func, renFn, renL, renV_ptr, renV_agg, dep, idx, nbeq, renB, renT, renL_eq, renV_int, renV_sl, e, mergeB, renV_tuple, nblt]
theorem h79_3 (P O q r R R2 : List Value) (o1 o2 : Bool) : callH LL 79 [sl 4 0 1 1, sl 6 0 3 3] [.cells P 1 true o1, .cells O 1 true o2, .cells q 1 true true, .cells r 1 true true, .cells [sl 0 0 n1 d1] 1 false true, .cells R 1 true true, .cells [sl 1 0 n2 d2, sl 5 0 n3 d3, sl 7 0 n4 d4] 1 false true, .cells R2 1 true true] =
    some ⟨sl 8 0 4 4, [.cells P 1 true o1, .cells O 1 true o2, .cells q 1 true true, .cells r 1 true true, .dead, .cells R 1 true true, .cells [sl 1 0 n2 d2, sl 5 0 n3 d3, sl 7 0 n4 d4] 1 false true, .cells R2 1 true true, .cells [sl 0 0 n1 d1, sl 1 0 n2 d2, sl 5 0 n3 d3, sl 7 0 n4 d4] 1 false true], [4, 0, 6, 1, 5, 7], [4]⟩ := by
  have e := r79_3 n1 d1 n2 d2 n3 d3 n4 d4 (.cells P 1 true o1) (.cells O 1 true o2) (.cells R 1 true true) (.cells R2 1 true true)
  have hm : ∀ q' : Nat, 30 < q' → reach [.cells P 1 true o1, .cells O 1 true o2, .cells q 1 true true, .cells r 1 true true, .cells [sl 0 0 n1 d1] 1 false true, .cells R 1 true true, .cells [sl 1 0 n2 d2, sl 5 0 n3 d3, sl 7 0 n4 d4] 1 false true, .cells R2 1 true true] 0 q' [4, 6] [] = [4, 0, 6, 1, 5, 7] := by
    intro q hq
    obtain ⟨q, rfl⟩ : ∃ j, q = j + 30 := ⟨q - 30, by omega⟩
    simp [reach_cons, reachC_t, reachC_f, reach_nil, rootsB, GE.mem, nblt, nbeq, ptrB, ptrT, ptrV_ptr, ptrV_sl, ptrV_int, ptrL, dep]
  have hpp : ([sl 4 0 1 1, sl 6 0 3 3] : List Value).flatMap (ptrV dep) = [4, 6] := rfl
  refine callH_of (by intro _; first | trivial | rfl) ?_ (by simp)
  unfold callH0
  simp only [hpp, hm reachN (by decide)]
  simp [optAll, renV_func, renFn, renL, renV_ptr, renV_agg, dep, idx, nbeq, renB, renT, renL_eq, renV_int, renV_sl, e, mergeB, renV_tuple, nblt]
end
/-- what follows two polynomials in a chain -/
def nxt (p o : List Int) : List Int := tms (lea (ovF p o).2) (-1)
def nxtB (p o : List Int) : Bool := Nat.ble 2 o.length && Nat.ble o.length p.length && Nat.ble p.length 60 && ovB p o && allB (nxt p o) && Nat.ble 1 (nxt p o).length
section
variable {p o : List Int} (hB : nxtB p o = true)
include hB
theorem nxt_ok : 2 ≤ o.length ∧ o.length ≤ p.length ∧ p.length ≤ 60 ∧ ovB p o = true ∧ allB (nxt p o) = true ∧ 1 ≤ (nxt p o).length ∧ (nxt p o).length ≤ 60 := by
  unfold nxtB at hB
  simp only [Bool.and_eq_true] at hB
  obtain ⟨⟨⟨⟨⟨c1, c2⟩, c3⟩, c4⟩, c5⟩, c6⟩ := hB
  have c1 := Nat.le_of_ble_eq_true c1
  have c2 := Nat.le_of_ble_eq_true c2
  have c3 := Nat.le_of_ble_eq_true c3
  have c6 := Nat.le_of_ble_eq_true c6
  refine ⟨c1, c2, c3, c4, c5, c6, ?_⟩
  obtain ⟨C', k', r1, r2, r3, r4, r5⟩ := l65f p.length o.length (cs := zm p) (co := zm o) (own := true) (own2 := true) PoC_zm PoC_zm c3 (by omega) c2 c4
  unfold nxt
  rw [tms_len, lea_len]
  have := dgP_le (p := (ovF p o).2)
  rw [← r3, List.length_take] at this
  rw [← r3]
  omega
end
section
variable (b b2 c cc : Nat) {cs co : List Value} {own own2 : Bool} {p o : List Int} {h : List Blk} (hb : h[b]? = some (.cells cs 1 true own)) (hb2 : h[b2]? = some (.cells co 1 true own2)) (hne : b ≠ b2) (hp : PoC cs p) (ho : PoC co o)
include hb hb2 hne hp ho
theorem k70_2 (h1 : o.length = 1) : callH LL 70 [sl b 0 p.length c, sl b2 0 1 cc] h = some ⟨sl h.length 0 2 2, h ++ [.cells [sl b 0 p.length c, sl b2 0 1 cc] 1 false true], [b, b2], []⟩ := by
  have hne' : ¬ b2 = b := fun e => hne e.symm
  refine callP_2 rfl hb hb2 hne noIdB_flat noIdB_flat (args' := [sl 0 0 p.length c, sl 1 0 1 cc]) (by simp [renV, dep, optAll, idx, nbeq, hne, hne']) (v := sl 2 0 2 2) (news := [.cells [sl 0 0 p.length c, sl 1 0 1 cc] 1 false true]) (go (by decide) ?_)
    (by simp [optAll, renB, renL, renL_eq, renV_sl, dep, nblt]) (by simp [renV, dep])
  rw [run70 _ _ _ (by simp)]
  simp (maxSteps := 1000000) (disch := first | omega | decide | assumption | simp [scal]) [lenA_sl lk_71, o_indexAddrS es_76, ze_76, o_buildSlice es_76 ze_76 (by decide) ba_76_2, o_buildSlice es_76 ze_76 (by decide) ba_76_1]
theorem k70_3 (hB : nxtB p o = true) (h1 : (nxt p o).length = 1) : callH LL 70 [sl b 0 p.length c, sl b2 0 o.length cc] h = some ⟨sl h.length 0 3 3, h ++ [.cells [sl b 0 p.length c, sl b2 0 o.length cc, sl (h.length + 1) 0 1 1] 1 false true, zB (nxt p o)], [b, b2], []⟩ := by
  have hne' : ¬ b2 = b := fun e => hne e.symm
  obtain ⟨c1', c2, c3, c4, c5, c6, c7⟩ := nxt_ok hB
  refine callP_2 rfl hb hb2 hne noIdB_flat noIdB_flat (args' := [sl 0 0 p.length c, sl 1 0 o.length cc]) (by simp [renV, dep, optAll, idx, nbeq, hne, hne']) (v := sl 2 0 3 3) (news := [.cells [sl 0 0 p.length c, sl 1 0 o.length cc, sl 3 0 1 1] 1 false true, zB (nxt p o)]) (go (by decide) ?_)
    (by simp [optAll, renB, renL, renL_eq, renV_sl, dep, nblt]) (by simp [renV, dep])
  have a65 := k65 0 1 c cc (p := p) (o := o) (h := [.cells cs 1 true own, .cells co 1 true own2]) rfl rfl (by decide) hp ho c3 (by omega) c2 c4
  have a66 := fun X => k66 3 (dgP (ovF p o).2) (p := lea (ovF p o).2) (h := [.cells cs 1 true own, .cells co 1 true own2, zB (lea (ovF p o).1), zB (lea (ovF p o).2), X]) rfl PoC_zm (by unfold nxt at c7; rw [tms_len] at c7; exact c7) (-1) (sm_tms c5)
  rw [show tms (lea (ovF p o).2) (-1) = nxt p o from rfl] at a66
  have a70 := k70_2 1 5 cc 1 (cs := co) (co := zm (nxt p o)) (own := own2) (own2 := true) (p := o) (o := nxt p o) (h := [.cells cs 1 true own, .cells co 1 true own2, zB (lea (ovF p o).1), zB (lea (ovF p o).2), .cells [sl 0 0 p.length c] 1 false true, zB (nxt p o)]) rfl rfl (by decide) ho PoC_zm h1
  have a79 := h79_2 p.length c o.length cc 1 1 cs co (zm (lea (ovF p o).1)) (zm (lea (ovF p o).2)) (zm (nxt p o)) own own2
  have el : (lea (ovF p o).2).length = dgP (ovF p o).2 := lea_len
  have e2 : dgP (ovF p o).2 = 1 := by rw [← el]; unfold nxt at h1; rwa [tms_len] at h1
  rw [el, e2] at a66
  rw [e2] at a65
  have e3 : ¬ o.length = 1 := by omega
  have e3' : ¬ (o.length : Int) = 1 := by omega
  clear hB c4 c5 h1
  simp only [zB] at a65 a66 a70 a79 ⊢
  generalize zm (nxt p o) = L1 at *
  generalize zm (lea (ovF p o).1) = L2 at *
  generalize zm (lea (ovF p o).2) = L3 at *
  generalize dgP (ovF p o).1 = d1 at *
  rw [run70 _ _ _ (by simp)]
  simp (maxSteps := 1000000) (disch := first | omega | decide | assumption | simp [scal]) [lenA_sl lk_71, o_indexAddrS es_76, ze_76, o_buildSlice es_76 ze_76 (by decide) ba_76_2, o_buildSlice es_76 ze_76 (by decide) ba_76_1, e3, e3', a65, a66, a70, a79]
theorem k70_4 (hB : nxtB p o = true) (hB2 : nxtB o (nxt p o) = true) (h1 : (nxt o (nxt p o)).length = 1) : callH LL 70 [sl b 0 p.length c, sl b2 0 o.length cc] h = some ⟨sl h.length 0 4 4, h ++ [.cells [sl b 0 p.length c, sl b2 0 o.length cc, sl (h.length + 1) 0 (nxt p o).length (nxt p o).length, sl (h.length + 2) 0 1 1] 1 false true, zB (nxt p o), zB (nxt o (nxt p o))], [b, b2], []⟩ := by
  have hne' : ¬ b2 = b := fun e => hne e.symm
  obtain ⟨c1', c2, c3, c4, c5, c6, c7⟩ := nxt_ok hB
  refine callP_2 rfl hb hb2 hne noIdB_flat noIdB_flat (args' := [sl 0 0 p.length c, sl 1 0 o.length cc]) (by simp [renV, dep, optAll, idx, nbeq, hne, hne']) (v := sl 2 0 4 4) (news := [.cells [sl 0 0 p.length c, sl 1 0 o.length cc, sl 3 0 (nxt p o).length (nxt p o).length, sl 4 0 1 1] 1 false true, zB (nxt p o), zB (nxt o (nxt p o))]) (go (by decide) ?_)
    (by simp [optAll, renB, renL, renL_eq, renV_sl, dep, nblt]) (by simp [renV, dep])
  have a65 := k65 0 1 c cc (p := p) (o := o) (h := [.cells cs 1 true own, .cells co 1 true own2]) rfl rfl (by decide) hp ho c3 (by omega) c2 c4
  have a66 := fun X => k66 3 (dgP (ovF p o).2) (p := lea (ovF p o).2) (h := [.cells cs 1 true own, .cells co 1 true own2, zB (lea (ovF p o).1), zB (lea (ovF p o).2), X]) rfl PoC_zm (by unfold nxt at c7; rw [tms_len] at c7; exact c7) (-1) (sm_tms c5)
  rw [show tms (lea (ovF p o).2) (-1) = nxt p o from rfl] at a66
  have a70 := k70_3 1 5 cc (nxt p o).length (cs := co) (co := zm (nxt p o)) (own := own2) (own2 := true) (p := o) (o := nxt p o) (h := [.cells cs 1 true own, .cells co 1 true own2, zB (lea (ovF p o).1), zB (lea (ovF p o).2), .cells [sl 0 0 p.length c] 1 false true, zB (nxt p o)]) rfl rfl (by decide) ho PoC_zm hB2 h1
  have a79 := h79_3 p.length c o.length cc (nxt p o).length (nxt p o).length 1 1 cs co (zm (lea (ovF p o).1)) (zm (lea (ovF p o).2)) (zm (nxt p o)) (zm (nxt o (nxt p o))) own own2
  have el : (lea (ovF p o).2).length = dgP (ovF p o).2 := lea_len
  have e2 : (nxt p o).length = dgP (ovF p o).2 := by rw [← el]; unfold nxt; rw [tms_len]
  rw [el] at a66
  rw [e2] at a70 a79 ⊢
  have e3 : ¬ o.length = 1 := by omega
  have e3' : ¬ (o.length : Int) = 1 := by omega
  clear hB hB2 c4 c5 h1
  simp only [zB] at a65 a66 a70 a79 ⊢
  generalize zm (nxt o (nxt p o)) = L4 at *
  generalize zm (nxt p o) = L1 at *
  generalize zm (lea (ovF p o).1) = L2 at *
  generalize zm (lea (ovF p o).2) = L3 at *
  generalize dgP (ovF p o).1 = d1 at *
  generalize dgP (ovF p o).2 = d2 at *
  rw [run70 _ _ _ (by simp)]
  simp (maxSteps := 1000000) (disch := first | omega | decide | assumption | simp [scal]) [lenA_sl lk_71, o_indexAddrS es_76, ze_76, o_buildSlice es_76 ze_76 (by decide) ba_76_2, o_buildSlice es_76 ze_76 (by decide) ba_76_1, e3, e3', a65, a66, a70, a79]
end
def stu (p : List Int) : List (List Int) :=
  let l := lea (slp (cor p))
  bif Nat.beq l.length 1 then [cor p, l] else
  let r := nxt (cor p) l
  bif Nat.beq r.length 1 then [cor p, l, r] else [cor p, l, r, nxt l r]
/-- nothing is too great, and it ends with a constant -/
def stuB (p : List Int) : Bool :=
  let l := lea (slp (cor p))
  corB p && Nat.ble 2 (cor p).length && Nat.ble (cor p).length 60 && allB (slp (cor p)) && (bif Nat.beq l.length 1 then true else
  let r := nxt (cor p) l
  nxtB (cor p) l && (bif Nat.beq r.length 1 then true else nxtB l r && Nat.beq (nxt l r).length 1))
def stC : Nat → List (List Int) → List Value
  | _, [] => []
  | p, q :: S => sl p 0 q.length q.length :: stC (p + 1) S
/-- a list of polynomials, told: its cells, then a block for each -/
def stBk (p : Nat) (S : List (List Int)) : List Blk := .cells (stC (p + 1) S) 1 false true :: S.map zB
end Go.Proofs.Ytkmompbfcgjgmaa.nt
namespace Go.Proofs.Ytkmompbfcgjgmaa.nt
open Go.GE
set_option linter.unusedVariables false
set_option linter.unusedSimpArgs false
set_option linter.unusedSectionVars false
set_option maxRecDepth 100000
set_option maxHeartbeats 4000000
attribute [local simp] runOps_nil runOps_cons runOpsF_nil runOpsF_cons fstS_some fstF_some opStep_eq want_none oStep_true oStep_false fin_pure fin_read fin_alloc fin_write storeB wrN cellV addWr o_move o_assign o_pick o_alloc o_box o_load o_store o_nilCheck o_bin o_un o_extract o_callV o_callB o_callI callV_f callV_y callV_fc o_makeFunc partsA Instr.fill builtin_len builtin_max2 bin_add bin_sub bin_mul bin_quo bin_rem bin_lss bin_leq bin_gtr bin_geq bin_eql bin_neq un_neg un_not bin_shr bin_shl wrap_u64_id opd opds optAll putO nbeq nblt constOk isC ops sub cl cr co bodyOf thenS_normal thenS_ret thenS_exit thenS_goto afterN_normal afterN_ret afterN_exit afterN_goto condS_true condS_false blockS_normal blockS_ret blockS_exit blockS_goto headS normS normK_eq fixS_nil fixS_cons fix1 fixV emptyB keepO_nil keepO_cons roundC_normal roundC_exit roundC_ret roundC_goto sweep_eq sweepD rnm pickR pickW rootsB ptrT renT ptrFn renFn ptrB_flat ptrB_non renB_flat renB_non plainS_some drawS_some fpsOk disj unord range' dropTo enumT undef wrap_i64_id Value.cells mkCells ptrTo scal cellsAt rdN endS_ret resultsA Option.bind_some tupV finish reachN dep ptrL_eq ptrL renL_eq renL ptrV_bool ptrV_int ptrV_string ptrV_nilFunc ptrV_nilIface ptrV_nilPtr ptrV_ptr ptrV_nilSl ptrV_sl ptrV_iface ptrV_agg ptrV_tuple ptrV_func renV_bool renV_int renV_string renV_nilFunc renV_nilIface renV_nilPtr renV_ptr renV_nilSl renV_sl renV_iface renV_agg renV_tuple renV_func gotoS_goto gotoS_normal gotoS_exit gotoS_ret skip_seq sliceE bnd bndHi intOf optOpd keepT_nil keepT_cons keepC_t keepC_f lk_nil lk_cons lkC_t lkC_f has_nil has_cons hasC_t hasC_f rep_nil rep_cons repC_t repC_f put_eq putC_t putC_f mem_nil mem_cons memC_t memC_f idx_nil idx_cons idxC_t idxC_f reach_nil reachP_cons reachQ_t reachQ_f ptrB_dead renB_dead ins_eq
attribute [local simp] n43_1s n43_3s n43_5s n43_6s n43_4s n43_2s n43_0s Try.f43
section
variable (b c : Nat) {cs : List Value} {own : Bool} {p : List Int} {h : List Blk} (hb : h[b]? = some (.cells cs 1 true own)) (hp : PoC cs p)
include hb hp
theorem k43 (hB : stuB p = true) : callH LL 43 [sl b 0 p.length c] h = some ⟨sl h.length 0 (stu p).length (stu p).length, h ++ stBk h.length (stu p), [b], []⟩ := by
  unfold stuB at hB
  simp only [Bool.and_eq_true] at hB
  obtain ⟨⟨⟨⟨c1, c2⟩, c3⟩, c4⟩, c5⟩ := hB
  have c2 := Nat.le_of_ble_eq_true c2
  have c3 := Nat.le_of_ble_eq_true c3
  have a41 := k41 0 c (h := [.cells cs 1 true own]) rfl hp c1
  have a54 := k54 1 (cor p).length (p := cor p) (h := [.cells cs 1 true own, zB (cor p)]) rfl PoC_zm (by omega) c3 (sm_slp c4)
  have a71 := k71 2 ((cor p).length - 1) (p := slp (cor p)) (h := [.cells cs 1 true own, zB (cor p), zB (slp (cor p))]) rfl PoC_zm (by rw [slp_len]; omega) (allB_lt c4)
  rw [slp_len] at a71
  obtain ⟨l, hl⟩ : ∃ l, lea (slp (cor p)) = l := ⟨_, rfl⟩
  have hll : l.length = dgP (slp (cor p)) := by rw [← hl, lea_len]
  have hst : stu p = (bif Nat.beq l.length 1 then [cor p, l] else (bif Nat.beq (nxt (cor p) l).length 1 then [cor p, l, nxt (cor p) l] else [cor p, l, nxt (cor p) l, nxt l (nxt (cor p) l)])) := by unfold stu; rw [hl]
  rw [hl, ← hll] at a71
  rw [hl] at c5
  rw [hst]
  generalize cor p = C at *
  simp only [zB] at a41 a54 a71
  generalize zm (slp C) = S2 at *
  clear c4 hl hll hst c1
  by_cases h1 : l.length = 1
  · have eb : Nat.beq l.length 1 = true := by rw [h1]; rfl
    simp only [eb, cond_true]
    have a70 := k70_2 1 3 C.length 1 (cs := zm C) (co := zm l) (own := true) (own2 := true) (p := C) (o := l) (h := [.cells cs 1 true own, zB C, .cells S2 1 true true, zB l]) rfl rfl (by decide) PoC_zm PoC_zm h1
    refine callP_1 rfl hb noIdB_flat (args' := [sl 0 0 p.length c]) (by simp [renV, dep, optAll, idx, nbeq]) (v := sl 1 0 2 2) (news := stBk 1 [C, l]) (go (by decide) ?_)
      (by simp [stBk, stC, optAll, renB, renL, renL_eq, renV_sl, dep, nblt, h1]) (by simp [renV, dep])
    rw [h1] at a71
    simp only [stBk, stC, zB, List.map_cons, List.map_nil, h1] at a41 a54 a71 a70 ⊢
    generalize zm C = L1 at *
    generalize zm l = L2 at *
    rw [run43 _ _ _ (by simp)]
    simp (maxSteps := 1000000) (disch := first | omega | decide | assumption | simp [scal]) [a41, a54, a71, a70]
  · have eb : Nat.beq l.length 1 = false := by rw [nbeq]; simp [h1]
    simp only [eb, cond_false, Bool.and_eq_true] at c5 ⊢
    obtain ⟨c6, c7⟩ := c5
    by_cases h2 : (nxt C l).length = 1
    · have eb2 : Nat.beq (nxt C l).length 1 = true := by rw [h2]; rfl
      simp only [eb2, cond_true]
      have a70 := k70_3 1 3 C.length l.length (cs := zm C) (co := zm l) (own := true) (own2 := true) (p := C) (o := l) (h := [.cells cs 1 true own, zB C, .cells S2 1 true true, zB l]) rfl rfl (by decide) PoC_zm PoC_zm c6 h2
      refine callP_1 rfl hb noIdB_flat (args' := [sl 0 0 p.length c]) (by simp [renV, dep, optAll, idx, nbeq]) (v := sl 1 0 3 3) (news := stBk 1 [C, l, nxt C l]) (go (by decide) ?_)
        (by simp [stBk, stC, optAll, renB, renL, renL_eq, renV_sl, dep, nblt, h2]) (by simp [renV, dep])
      simp only [stBk, stC, zB, List.map_cons, List.map_nil, h2] at a41 a54 a71 a70 ⊢
      clear c6 c7 h2 eb2 eb
      generalize zm (nxt C l) = L3 at *
      generalize zm C = L1 at *
      generalize zm l = L2 at *
      rw [run43 _ _ _ (by simp)]
      simp (maxSteps := 1000000) (disch := first | omega | decide | assumption | simp [scal]) [a41, a54, a71, a70]
    · have eb2 : Nat.beq (nxt C l).length 1 = false := by rw [nbeq]; simp [h2]
      simp only [eb2, cond_false, Bool.and_eq_true] at c7 ⊢
      obtain ⟨c7, c8⟩ := c7
      have h3 : (nxt l (nxt C l)).length = 1 := by rw [nbeq, decide_eq_true_eq] at c8; exact c8
      have a70 := k70_4 1 3 C.length l.length (cs := zm C) (co := zm l) (own := true) (own2 := true) (p := C) (o := l) (h := [.cells cs 1 true own, zB C, .cells S2 1 true true, zB l]) rfl rfl (by decide) PoC_zm PoC_zm c6 c7 h3
      refine callP_1 rfl hb noIdB_flat (args' := [sl 0 0 p.length c]) (by simp [renV, dep, optAll, idx, nbeq]) (v := sl 1 0 4 4) (news := stBk 1 [C, l, nxt C l, nxt l (nxt C l)]) (go (by decide) ?_)
        (by simp [stBk, stC, optAll, renB, renL, renL_eq, renV_sl, dep, nblt, h3]) (by simp [renV, dep])
      simp only [stBk, stC, zB, List.map_cons, List.map_nil, h3] at a41 a54 a71 a70 ⊢
      clear c6 c7 c8 h2 eb2 eb h3
      generalize zm (nxt l (nxt C l)) = L4 at *
      generalize zm (nxt C l) = L3 at *
      generalize zm C = L1 at *
      generalize zm l = L2 at *
      generalize (nxt C l).length = g3 at *
      rw [run43 _ _ _ (by simp)]
      simp (maxSteps := 1000000) (disch := first | omega | decide | assumption | simp [scal]) [a41, a54, a71, a70]
end
end Go.Proofs.Ytkmompbfcgjgmaa.nt
namespace Go.Proofs.Ytkmompbfcgjgmaa.nt
open Go.GE
set_option linter.unusedVariables false
set_option linter.unusedSimpArgs false
set_option linter.unusedSectionVars false
set_option maxRecDepth 100000
set_option maxHeartbeats 4000000
attribute [local simp] runOps_nil runOps_cons runOpsF_nil runOpsF_cons fstS_some fstF_some opStep_eq want_none oStep_true oStep_false fin_pure fin_read fin_alloc fin_write storeB wrN cellV addWr o_move o_assign o_pick o_alloc o_box o_load o_store o_nilCheck o_bin o_un o_extract o_callV o_callB o_callI callV_f callV_y callV_fc o_makeFunc partsA Instr.fill builtin_len builtin_max2 bin_add bin_sub bin_mul bin_quo bin_rem bin_lss bin_leq bin_gtr bin_geq bin_eql bin_neq un_neg un_not bin_shr bin_shl wrap_u64_id opd opds optAll putO nbeq nblt constOk isC ops sub cl cr co bodyOf thenS_normal thenS_ret thenS_exit thenS_goto afterN_normal afterN_ret afterN_exit afterN_goto condS_true condS_false blockS_normal blockS_ret blockS_exit blockS_goto headS normS normK_eq fixS_nil fixS_cons fix1 fixV emptyB keepO_nil keepO_cons roundC_normal roundC_exit roundC_ret roundC_goto sweep_eq sweepD rnm pickR pickW rootsB ptrT renT ptrFn renFn ptrB_flat ptrB_non renB_flat renB_non plainS_some drawS_some fpsOk disj unord range' dropTo enumT undef wrap_i64_id Value.cells mkCells ptrTo scal cellsAt rdN endS_ret resultsA Option.bind_some tupV finish reachN dep ptrL_eq ptrL renL_eq renL ptrV_bool ptrV_int ptrV_string ptrV_nilFunc ptrV_nilIface ptrV_nilPtr ptrV_ptr ptrV_nilSl ptrV_sl ptrV_iface ptrV_agg ptrV_tuple ptrV_func renV_bool renV_int renV_string renV_nilFunc renV_nilIface renV_nilPtr renV_ptr renV_nilSl renV_sl renV_iface renV_agg renV_tuple renV_func gotoS_goto gotoS_normal gotoS_exit gotoS_ret skip_seq sliceE bnd bndHi intOf optOpd keepT_nil keepT_cons keepC_t keepC_f lk_nil lk_cons lkC_t lkC_f has_nil has_cons hasC_t hasC_f rep_nil rep_cons repC_t repC_f put_eq putC_t putC_f mem_nil mem_cons memC_t memC_f idx_nil idx_cons idxC_t idxC_f reach_nil reachP_cons reachQ_t reachQ_f ptrB_dead renB_dead ins_eq
attribute [local simp] n46_1s n46_3s n46_4s n46_2s n46_0s Try.f46 n73_1s n73_4s n73_8s n73_11s n73_12s n73_10s n73_16s n73_18s n73_21s n73_22s n73_20s n73_23s n73_19s n73_17s n73_15s n73_14s n73_24s n73_13s n73_9s n73_7s n73_6s n73_6g n73_5s n73_3s n73_26s n73_27s n73_25s n73_2s n73_0s Try.f73 n45_1s n45_3s n45_4s n45_2s n45_0s Try.f45 n21_1s n21_5s n21_8s n21_9s n21_7s n21_11s n21_14s n21_15s n21_13s n21_17s n21_20s n21_21s n21_19s n21_23s n21_26s n21_27s n21_25s n21_28s n21_24s n21_22s n21_18s n21_16s n21_12s n21_10s n21_6s n21_4s n21_3s n21_30s n21_31s n21_29s n21_2s n21_0s Try.f21 n37_1s n37_3s n37_4s n37_2s n37_0s Try.f37 n51_1s n51_3s n51_7s n51_10s n51_11s n51_9s n51_13s n51_16s n51_17s n51_15s n51_19s n51_22s n51_23s n51_21s n51_24s n51_20s n51_18s n51_14s n51_12s n51_8s n51_6s n51_5s n51_26s n51_27s n51_25s n51_4s n51_2s n51_0s Try.f51
def badC (x : Int) : Bool := decide (x < -50) || decide (50 < x)
theorem k46 (x : Int) (h : List Blk) : callH LL 46 [iv x] h = some ⟨.bool (badC x), h, [], []⟩ := by
  refine callH_plain (go (by decide) ?_) rfl rfl
  rw [run46 _ _ _ (by simp)]
  unfold badC
  by_cases h1 : x < -50
  · simp (maxSteps := 1000000) (disch := first | omega | decide | assumption | simp [scal]) [want_some q46_3g2, h1]
  · by_cases h2 : 50 < x
    · simp (maxSteps := 1000000) (disch := first | omega | decide | assumption | simp [scal]) [want_some q46_3g2, h1, h2]
    · simp (maxSteps := 1000000) (disch := first | omega | decide | assumption | simp [scal]) [want_some q46_3g2, h1, h2]
section
variable (c : Nat) {cs : List Value} {own : Bool} {p : List Int} (hp : PoC cs p) (h60 : p.length ≤ 60)
include hp h60
theorem l73 : ∀ (q i : Nat), i + q = p.length → ((p.drop i).any badC = true → ∃ j : Nat, j ≤ 60 ∧ lpB Try.prog LL ⟨73, 19, 1, none⟩ n73_6 n73_7 ⟨[(0, sl 0 0 p.length c), (1, .func (.func 46) #[] #[]), (7, iv p.length), (8, iv i)], [.cells cs 1 true own], []⟩ =
      some (.ret, ⟨[(4, iv j)], [.cells cs 1 true own], []⟩)) ∧ ((p.drop i).any badC = false → lpB Try.prog LL ⟨73, 19, 1, none⟩ n73_6 n73_7 ⟨[(0, sl 0 0 p.length c), (1, .func (.func 46) #[] #[]), (7, iv p.length), (8, iv i)], [.cells cs 1 true own], []⟩ =
      some (.exit 0, ⟨[], [.cells cs 1 true own], []⟩)) := by
  intro q
  induction q with
  | zero =>
    intro i hi
    obtain rfl : i = p.length := by omega
    rw [List.drop_length]
    refine ⟨fun h => by simp at h, fun _ => ?_⟩
    rw [lpB_eq]
    simp (maxSteps := 1000000) (disch := first | omega | decide | assumption | simp [scal]) [lenA_sl lk_22, o_indexAddrS es_22, loadA_eq ia_3]
  | succ q ih =>
    intro i hi
    have e0 : i < p.length := by omega
    have e1 : (i : Int) < p.length := by omega
    have p1 := hp i e0
    have hx : p.getD i 0 = p[i] := by simp [e0]
    obtain ⟨ih1, ih2⟩ := ih (i + 1) (by omega)
    rw [List.drop_eq_getElem_cons e0, List.any_cons, ← hx]
    have a46 := fun h => k46 (p.getD i 0) h
    simp only [cast1] at ih1 ih2
    clear ih hx
    generalize p.getD i 0 = x at *
    cases hb : badC x
    · rw [hb] at a46
      simp only [Bool.false_or]
      refine ⟨fun h => ?_, fun h => ?_⟩
      · obtain ⟨j, hj, this⟩ := ih1 h
        refine ⟨j, hj, ?_⟩
        rw [lpB_eq]
        simp (maxSteps := 1000000) (disch := first | omega | decide | assumption | simp [scal]) [lenA_sl lk_22, o_indexAddrS es_22, loadA_eq ia_3, e0, e1, p1, a46, this]
      · have this := ih2 h
        rw [lpB_eq]
        simp (maxSteps := 1000000) (disch := first | omega | decide | assumption | simp [scal]) [lenA_sl lk_22, o_indexAddrS es_22, loadA_eq ia_3, e0, e1, p1, a46, this]
    · rw [hb] at a46
      simp only [Bool.true_or]
      refine ⟨fun _ => ⟨i, by omega, ?_⟩, fun h => by cases h⟩
      rw [lpB_eq]
      simp (maxSteps := 1000000) (disch := first | omega | decide | assumption | simp [scal]) [lenA_sl lk_22, o_indexAddrS es_22, loadA_eq ia_3, e0, e1, p1, a46]
end
section
variable (b c : Nat) {cs : List Value} {own : Bool} {p : List Int} {h : List Blk} (hb : h[b]? = some (.cells cs 1 true own)) (hp : PoC cs p)
include hb hp
theorem k45 (h60 : p.length ≤ 60) : callH LL 45 [sl b 0 p.length c, .func (.func 46) #[] #[]] h = some ⟨.bool (p.any badC), h, [b], []⟩ := by
  have a73 : ∀ R, ∃ j : Int, (p.any badC = decide (0 ≤ j)) ∧ callH LL 73 [sl 0 0 p.length c, .func (.func 46) #[] #[]] (.cells cs 1 true own :: R) = some ⟨iv j, .cells cs 1 true own :: R, [0], []⟩ := by
    intro R
    have l := l73 c (own := own) hp h60 p.length 0 (by omega)
    rw [List.drop_zero] at l
    simp only [Int.natCast_zero] at l
    cases ha : p.any badC
    · have this := l.2 ha
      refine ⟨-1, by decide, callH_1 rfl rfl noIdB_flat (args' := [sl 0 0 p.length c, .func (.func 46) #[] #[]]) (by simp [renV, dep, optAll, idx, nbeq, renFn, renL]) (go (by decide) ?_) fun _ => rfl⟩
      rw [run73 _ _ _ (by simp)]
      simp (maxSteps := 1000000) (disch := first | omega | decide | assumption | simp [scal]) [lenA_sl lk_22, o_indexAddrS es_22, loadA_eq ia_3, this]
    · obtain ⟨j, hj, this⟩ := l.1 ha
      refine ⟨j, by simp, callH_1 rfl rfl noIdB_flat (args' := [sl 0 0 p.length c, .func (.func 46) #[] #[]]) (by simp [renV, dep, optAll, idx, nbeq, renFn, renL]) (go (by decide) ?_) fun _ => rfl⟩
      rw [run73 _ _ _ (by simp)]
      simp (maxSteps := 1000000) (disch := first | omega | decide | assumption | simp [scal]) [lenA_sl lk_22, o_indexAddrS es_22, loadA_eq ia_3, this]
  refine callH_1 rfl hb noIdB_flat (args' := [sl 0 0 p.length c, .func (.func 46) #[] #[]]) (by simp [renV, dep, optAll, idx, nbeq, renFn, renL]) (go (by decide) ?_) fun _ => rfl
  obtain ⟨j, hj, a⟩ := a73 []
  rw [hj, run45 _ _ _ (by simp)]
  by_cases h1 : 0 ≤ j
  · simp (maxSteps := 1000000) (disch := first | omega | decide | assumption | simp [scal]) [a, h1]
  · simp (maxSteps := 1000000) (disch := first | omega | decide | assumption | simp [scal]) [a, h1]
end
/-- the error of a polynomial -/
def chkE (p : List Int) : Int := if p.length = 0 then 2 else if 4 < p.length then 3 else if p.any badC = true then 1 else if p.length = 1 ∨ lst p = 0 then 15 else 0
section
variable (b c : Nat) {cs : List Value} {own : Bool} {p : List Int} {h : List Blk} (hb : h[b]? = some (.cells cs 1 true own)) (hp : PoC cs p)
include hb hp
theorem k21 (hl : p.length ≤ 4000000000) : callH LL 21 [sl b 0 p.length c] h = some ⟨iv (chkE p), h, [b], []⟩ := by
  refine callH_1 rfl hb noIdB_flat (args' := [sl 0 0 p.length c]) (by simp [renV, dep, optAll, idx, nbeq]) (go (by decide) ?_) fun _ => rfl
  rw [run21 _ _ _ (by simp)]
  unfold chkE
  by_cases h1 : p.length = 0
  · have h1' : (p.length : Int) = 0 := by omega
    simp (maxSteps := 1000000) (disch := first | omega | decide | assumption | simp [scal]) [lenA_sl lk_22, o_indexAddrS es_22, loadA_eq ia_3, want_some q21_23g3, h1, h1']
  · have h1' : ¬ (p.length : Int) = 0 := by omega
    by_cases h2 : 4 < p.length
    · have h2' : (4 : Int) < p.length := by omega
      simp (maxSteps := 1000000) (disch := first | omega | decide | assumption | simp [scal]) [lenA_sl lk_22, o_indexAddrS es_22, loadA_eq ia_3, want_some q21_23g3, h1, h1', h2, h2']
    · have h2' : ¬ (4 : Int) < p.length := by omega
      have a45 := k45 0 c (h := [.cells cs 1 true own]) rfl hp (by omega)
      cases h3 : p.any badC
      · rw [h3] at a45
        by_cases h4 : p.length = 1
        · have h4' : (p.length : Int) = 1 := by omega
          rw [h4] at a45
          simp (maxSteps := 1000000) (disch := first | omega | decide | assumption | simp [scal]) [lenA_sl lk_22, o_indexAddrS es_22, loadA_eq ia_3, want_some q21_23g3, h1, h1', h2, h2', a45, h4, h4']
        · have h4' : ¬ (p.length : Int) = 1 := by omega
          have p1 := hp (p.length - 1) (by omega)
          rw [show p.getD (p.length - 1) 0 = lst p from rfl] at p1
          obtain ⟨m, hm⟩ : ∃ m, p.length = m + 1 := ⟨p.length - 1, by omega⟩
          have e1 : ((m + 1 : Nat) : Int) - 1 = m := by omega
          have e2 : m < m + 1 := by omega
          have e3 : (m : Int) < (m : Int) + 1 := by omega
          have e4 : m ≤ 59 := by omega
          have e5 : ¬ m = 0 := by omega
          have e6 : ¬ (m : Int) = 0 := by omega
          have e7 : ¬ (4 : Int) < (m : Int) + 1 := by omega
          have e8 : ¬ 4 < m + 1 := by omega
          have e9 : ¬ (m : Int) + 1 = 1 := by omega
          have e10 : ¬ (m : Int) + 1 = 0 := by omega
          rw [hm] at a45 p1 ⊢
          rw [Nat.add_sub_cancel] at p1
          simp only [cast1] at e1 ⊢
          clear h1 h1' h2 h2' h4 h4' hb hp hl hm
          by_cases h5 : lst p = 0
          · rw [h5] at p1
            simp (maxSteps := 1000000) (disch := first | omega | decide | assumption | simp [scal]) [lenA_sl lk_22, o_indexAddrS es_22, loadA_eq ia_3, want_some q21_23g3, e1, e2, e3, e5, e6, e7, e8, e9, e10, a45, p1, h5]
          · generalize lst p = x at *
            simp (maxSteps := 1000000) (disch := first | omega | decide | assumption | simp [scal]) [lenA_sl lk_22, o_indexAddrS es_22, loadA_eq ia_3, want_some q21_23g3, e1, e2, e3, e5, e6, e7, e8, e9, e10, a45, p1, h5]
      · rw [h3] at a45
        simp (maxSteps := 1000000) (disch := first | omega | decide | assumption | simp [scal]) [lenA_sl lk_22, o_indexAddrS es_22, loadA_eq ia_3, want_some q21_23g3, h1, h1', h2, h2', a45]
end
def goodR (x y : Int) : Bool := decide (-100000 ≤ x) && decide (x ≤ 100000) && decide (1 ≤ y) && decide (y ≤ 1000)
theorem k37 (x y : Int) (h : List Blk) : callH LL 37 [.agg #[iv x, iv y]] h = some ⟨.bool (goodR x y), h, [], []⟩ := by
  refine callH_none rfl (fun _ => rfl) (go (by decide) ?_) fun _ => rfl
  rw [run37 _ _ _ (by simp)]
  unfold goodR
  by_cases h1 : -100000 ≤ x
  · by_cases h2 : x ≤ 100000
    · by_cases h3 : 1 ≤ y
      · by_cases h4 : y ≤ 1000
        · simp (maxSteps := 1000000) (disch := first | omega | decide | assumption | simp [scal]) [o_fieldAddr fa_24_0 (by decide), loadA_eq ia_3, o_fieldAddr fa_24_1 (by decide), want_some q37_3g3, want_some q37_3g8, want_some q37_3g13, h1, h2, h3, h4]
        · simp (maxSteps := 1000000) (disch := first | omega | decide | assumption | simp [scal]) [o_fieldAddr fa_24_0 (by decide), loadA_eq ia_3, o_fieldAddr fa_24_1 (by decide), want_some q37_3g3, want_some q37_3g8, want_some q37_3g13, h1, h2, h3, h4]
      · simp (maxSteps := 1000000) (disch := first | omega | decide | assumption | simp [scal]) [o_fieldAddr fa_24_0 (by decide), loadA_eq ia_3, o_fieldAddr fa_24_1 (by decide), want_some q37_3g3, want_some q37_3g8, want_some q37_3g13, h1, h2, h3]
    · simp (maxSteps := 1000000) (disch := first | omega | decide | assumption | simp [scal]) [o_fieldAddr fa_24_0 (by decide), loadA_eq ia_3, o_fieldAddr fa_24_1 (by decide), want_some q37_3g3, want_some q37_3g8, want_some q37_3g13, h1, h2]
  · simp (maxSteps := 1000000) (disch := first | omega | decide | assumption | simp [scal]) [o_fieldAddr fa_24_0 (by decide), loadA_eq ia_3, o_fieldAddr fa_24_1 (by decide), want_some q37_3g3, want_some q37_3g8, want_some q37_3g13, h1]
/-- the error of a polynomial and two arguments -/
def betE (p : List Int) (x y u v : Int) : Int := if chkE p ≠ 0 then chkE p else if (goodR x y && goodR u v) = true then (if x * v > u * y then 5 else 0) else 1
theorem good_bd {x y : Int} (h : goodR x y = true) : -100000 ≤ x ∧ x ≤ 100000 ∧ 1 ≤ y ∧ y ≤ 1000 := by
  unfold goodR at h
  simp only [Bool.and_eq_true, decide_eq_true_eq] at h
  omega
theorem mul_bd {x v : Int} (h1 : -100000 ≤ x) (h2 : x ≤ 100000) (h3 : 1 ≤ v) (h4 : v ≤ 1000) : Sm (x * v) := by
  have e1 : x * v ≤ 100000 * v := Int.mul_le_mul_of_nonneg_right h2 (by omega)
  have e2 : -100000 * v ≤ x * v := Int.mul_le_mul_of_nonneg_right h1 (by omega)
  unfold Sm; omega
section
variable (b c : Nat) {cs : List Value} {own : Bool} {p : List Int} {h : List Blk} (hb : h[b]? = some (.cells cs 1 true own)) (hp : PoC cs p)
include hb hp
theorem k51 (hl : p.length ≤ 4000000000) (x y u v : Int) : callH LL 51 [sl b 0 p.length c, .agg #[iv x, iv y], .agg #[iv u, iv v]] h = some ⟨iv (betE p x y u v), h, [b], []⟩ := by
  refine callH_1 rfl hb noIdB_flat (args' := [sl 0 0 p.length c, .agg #[iv x, iv y], .agg #[iv u, iv v]]) (by simp [renV, dep, optAll, idx, nbeq]) (go (by decide) ?_) fun _ => rfl
  have a21 := fun R => k21 0 c (h := .cells cs 1 true own :: R) rfl hp hl
  have a37 := fun h => k37 x y h
  have a37b := fun h => k37 u v h
  unfold betE
  rw [run51 _ _ _ (by simp)]
  by_cases h1 : chkE p = 0
  · rw [h1] at a21
    cases h2 : goodR x y
    · rw [h2] at a37
      simp (maxSteps := 1000000) (disch := first | omega | decide | assumption | simp [scal]) [loadA_eq ia_24, o_fieldAddr fa_24_0 (by decide), loadA_eq ia_3, o_fieldAddr fa_24_1 (by decide), want_some q51_13g3, h1, a21, a37]
    · cases h3 : goodR u v
      · rw [h2] at a37
        rw [h3] at a37b
        simp (maxSteps := 1000000) (disch := first | omega | decide | assumption | simp [scal]) [loadA_eq ia_24, o_fieldAddr fa_24_0 (by decide), loadA_eq ia_3, o_fieldAddr fa_24_1 (by decide), want_some q51_13g3, h1, a21, a37, a37b]
      · obtain ⟨x1, x2, x3, x4⟩ := good_bd h2
        obtain ⟨u1, u2, u3, u4⟩ := good_bd h3
        rw [h2] at a37
        rw [h3] at a37b
        have w1 := (mul_bd x1 x2 u3 u4).w
        have w2 := (mul_bd u1 u2 x3 x4).w
        by_cases h4 : u * y < x * v
        · simp (maxSteps := 1000000) (disch := first | omega | decide | assumption | simp [scal]) [loadA_eq ia_24, o_fieldAddr fa_24_0 (by decide), loadA_eq ia_3, o_fieldAddr fa_24_1 (by decide), want_some q51_13g3, h1, a21, a37, a37b, w1, w2, h4]
        · simp (maxSteps := 1000000) (disch := first | omega | decide | assumption | simp [scal]) [loadA_eq ia_24, o_fieldAddr fa_24_0 (by decide), loadA_eq ia_3, o_fieldAddr fa_24_1 (by decide), want_some q51_13g3, h1, a21, a37, a37b, w1, w2, h4]
  · simp (maxSteps := 1000000) (disch := first | omega | decide | assumption | simp [scal]) [loadA_eq ia_24, o_fieldAddr fa_24_0 (by decide), loadA_eq ia_3, o_fieldAddr fa_24_1 (by decide), want_some q51_13g3, h1, a21]
end
end Go.Proofs.Ytkmompbfcgjgmaa.nt
namespace Go.Proofs.Ytkmompbfcgjgmaa.nt
open Go.GE
set_option linter.unusedVariables false
set_option linter.unusedSimpArgs false
set_option linter.unusedSectionVars false
set_option maxRecDepth 100000
set_option maxHeartbeats 4000000
attribute [local simp] runOps_nil runOps_cons runOpsF_nil runOpsF_cons fstS_some fstF_some opStep_eq want_none oStep_true oStep_false fin_pure fin_read fin_alloc fin_write storeB wrN cellV addWr o_move o_assign o_pick o_alloc o_box o_load o_store o_nilCheck o_bin o_un o_extract o_callV o_callB o_callI callV_f callV_y callV_fc o_makeFunc partsA Instr.fill builtin_len builtin_max2 bin_add bin_sub bin_mul bin_quo bin_rem bin_lss bin_leq bin_gtr bin_geq bin_eql bin_neq un_neg un_not bin_shr bin_shl wrap_u64_id opd opds optAll putO nbeq nblt constOk isC ops sub cl cr co bodyOf thenS_normal thenS_ret thenS_exit thenS_goto afterN_normal afterN_ret afterN_exit afterN_goto condS_true condS_false blockS_normal blockS_ret blockS_exit blockS_goto headS normS normK_eq fixS_nil fixS_cons fix1 fixV emptyB keepO_nil keepO_cons roundC_normal roundC_exit roundC_ret roundC_goto sweep_eq sweepD rnm pickR pickW rootsB ptrT renT ptrFn renFn ptrB_flat ptrB_non renB_flat renB_non plainS_some drawS_some fpsOk disj unord range' dropTo enumT undef wrap_i64_id Value.cells mkCells ptrTo scal cellsAt rdN endS_ret resultsA Option.bind_some tupV finish reachN dep ptrL_eq ptrL renL_eq renL ptrV_bool ptrV_int ptrV_string ptrV_nilFunc ptrV_nilIface ptrV_nilPtr ptrV_ptr ptrV_nilSl ptrV_sl ptrV_iface ptrV_agg ptrV_tuple ptrV_func renV_bool renV_int renV_string renV_nilFunc renV_nilIface renV_nilPtr renV_ptr renV_nilSl renV_sl renV_iface renV_agg renV_tuple renV_func gotoS_goto gotoS_normal gotoS_exit gotoS_ret skip_seq sliceE bnd bndHi intOf optOpd keepT_nil keepT_cons keepC_t keepC_f lk_nil lk_cons lkC_t lkC_f has_nil has_cons hasC_t hasC_f rep_nil rep_cons repC_t repC_f put_eq putC_t putC_f mem_nil mem_cons memC_t memC_f idx_nil idx_cons idxC_t idxC_f reach_nil reachP_cons reachQ_t reachQ_f ptrB_dead renB_dead ins_eq
attribute [local simp] n49_1s n49_3s n49_4s n49_2s n49_0s Try.f49 n25_1s n25_4s n25_6s n25_9s n25_10s n25_8s n25_11s n25_7s n25_5s n25_3s n25_13s n25_14s n25_12s n25_2s n25_0s Try.f25 n23_1s n23_3s n23_7s n23_10s n23_11s n23_9s n23_13s n23_16s n23_17s n23_15s n23_18s n23_14s n23_12s n23_8s n23_6s n23_5s n23_20s n23_21s n23_19s n23_4s n23_2s n23_0s Try.f23
def vAt (S : List (List Int)) (x y : Int) : Nat := chN (S.map fun q => sgP q x y) 0 0
def evA (S : List (List Int)) (x y : Int) : Bool := S.all fun q => evB x y q.reverse 0 1 && Nat.ble 1 q.length && Nat.ble q.length 60
theorem evA_mem {S : List (List Int)} {x y : Int} (h : evA S x y = true) {q : List Int} (hq : q ∈ S) : evB x y q.reverse 0 1 = true ∧ 0 < q.length ∧ q.length ≤ 60 := by
  have := List.all_eq_true.1 h q hq
  simp only [Bool.and_eq_true] at this
  exact ⟨this.1.1, Nat.le_of_ble_eq_true this.1.2, Nat.le_of_ble_eq_true this.2⟩
theorem stu_eq {p : List Int} : stu p = bif Nat.beq (lea (slp (cor p))).length 1 then [cor p, lea (slp (cor p))] else bif Nat.beq (nxt (cor p) (lea (slp (cor p)))).length 1 then [cor p, lea (slp (cor p)), nxt (cor p) (lea (slp (cor p)))] else [cor p, lea (slp (cor p)), nxt (cor p) (lea (slp (cor p))), nxt (lea (slp (cor p))) (nxt (cor p) (lea (slp (cor p))))] := rfl
theorem stu_cases {p : List Int} (hB : stuB p = true) : (∃ q1 q2, stu p = [q1, q2]) ∨ (∃ q1 q2 q3, stu p = [q1, q2, q3]) ∨ ∃ q1 q2 q3 q4, stu p = [q1, q2, q3, q4] := by
  rw [stu_eq]
  cases Nat.beq (lea (slp (cor p))).length 1
  · rw [cond_false]
    cases h : Nat.beq (nxt (cor p) (lea (slp (cor p)))).length 1
    · rw [cond_false]; exact .inr (.inr ⟨_, _, _, _, rfl⟩)
    · rw [cond_true]; exact .inr (.inl ⟨_, _, _, rfl⟩)
  · rw [cond_true]; exact .inl ⟨_, _, rfl⟩
section
variable (Z0 Z1 Z2 : Blk) (c d1 d2 : Nat) {cs1 cs2 : List Value} {own1 own2 : Bool} {p1 p2 : List Int} (hp1 : PoC cs1 p1) (h01 : 0 < p1.length) (h61 : p1.length ≤ 60) (hp2 : PoC cs2 p2) (h02 : 0 < p2.length) (h62 : p2.length ≤ 60)
include hp1 h01 h61 hp2 h02 h62
theorem h52A_2 (x y u v : Int) (hb1 : evB x y p1.reverse 0 1 = true) (hb2 : evB x y p2.reverse 0 1 = true) (hb1b : evB u v p1.reverse 0 1 = true) (hb2b : evB u v p2.reverse 0 1 = true) : callH LL 52 [sl 3 0 2 c, .agg #[iv x, iv y], .agg #[iv u, iv v]] [Z0, Z1, Z2, .cells [sl 4 0 p1.length d1, sl 5 0 p2.length d2] 1 false true, .cells cs1 1 true own1, .cells cs2 1 true own2] =
    some ⟨iv ((chN [sgP p1 x y, sgP p2 x y] 0 0 : Nat) - (chN [sgP p1 u v, sgP p2 u v] 0 0 : Nat) : Int), [Z0, Z1, Z2, .cells [sl 4 0 p1.length d1, sl 5 0 p2.length d2] 1 false true, .cells cs1 1 true own1, .cells cs2 1 true own2], [3, 4, 5], []⟩ := by
  have e := r52_2 c d1 d2 (own1 := own1) (own2 := own2) hp1 h01 h61 hp2 h02 h62 x y u v hb1 hb2 hb1b hb2b
  generalize chN [sgP p1 x y, sgP p2 x y] 0 0 = N1 at *
  generalize chN [sgP p1 u v, sgP p2 u v] 0 0 = N2 at *
  have hm : ∀ q : Nat, 30 < q → reach [Z0, Z1, Z2, .cells [sl 4 0 p1.length d1, sl 5 0 p2.length d2] 1 false true, .cells cs1 1 true own1, .cells cs2 1 true own2] 0 q [3] [] = [3, 4, 5] := by
    intro q hq
    obtain ⟨q, rfl⟩ : ∃ j, q = j + 30 := ⟨q - 30, by omega⟩
    simp [reach_cons, reachC_t, reachC_f, reach_nil, rootsB, GE.mem, nblt, nbeq, ptrB, ptrT, ptrV_ptr, ptrV_sl, ptrV_int, ptrV_func, ptrFn, ptrL, dep]
  have hpp : ([sl 3 0 2 c, .agg #[iv x, iv y], .agg #[iv u, iv v]] : List Value).flatMap (ptrV dep) = [3] := rfl
  refine callH_of (by intro _; first | trivial | rfl) ?_ (by simp)
  unfold callH0
  simp only [hpp, hm reachN (by decide)]
  simp [optAll, renV_func, renFn, renL, renV_ptr, renV_agg, dep, idx, nbeq, renB, renT, renL_eq, renV_int, renV_sl, e, mergeB, renV_tuple, nblt]
end
section
variable (Z1 Z2 : Blk) (c d1 d2 : Nat) {cs1 cs2 : List Value} {own1 own2 : Bool} {p1 p2 : List Int} (hp1 : PoC cs1 p1) (h01 : 0 < p1.length) (h61 : p1.length ≤ 60) (hp2 : PoC cs2 p2) (h02 : 0 < p2.length) (h62 : p2.length ≤ 60)
include hp1 h01 h61 hp2 h02 h62
theorem h52B_2 (x y u v : Int) (hb1 : evB x y p1.reverse 0 1 = true) (hb2 : evB x y p2.reverse 0 1 = true) (hb1b : evB u v p1.reverse 0 1 = true) (hb2b : evB u v p2.reverse 0 1 = true) : callH LL 52 [sl 3 0 2 c, .agg #[iv x, iv y], .agg #[iv u, iv v]] [.cells cs1 1 true own1, Z1, Z2, .cells [sl 0 0 p1.length d1, sl 4 0 p2.length d2] 1 false true, .cells cs2 1 true own2] =
    some ⟨iv ((chN [sgP p1 x y, sgP p2 x y] 0 0 : Nat) - (chN [sgP p1 u v, sgP p2 u v] 0 0 : Nat) : Int), [.cells cs1 1 true own1, Z1, Z2, .cells [sl 0 0 p1.length d1, sl 4 0 p2.length d2] 1 false true, .cells cs2 1 true own2], [3, 0, 4], []⟩ := by
  have e := r52_2 c d1 d2 (own1 := own1) (own2 := own2) hp1 h01 h61 hp2 h02 h62 x y u v hb1 hb2 hb1b hb2b
  generalize chN [sgP p1 x y, sgP p2 x y] 0 0 = N1 at *
  generalize chN [sgP p1 u v, sgP p2 u v] 0 0 = N2 at *
  have hm : ∀ q : Nat, 30 < q → reach [.cells cs1 1 true own1, Z1, Z2, .cells [sl 0 0 p1.length d1, sl 4 0 p2.length d2] 1 false true, .cells cs2 1 true own2] 0 q [3] [] = [3, 0, 4] := by
    intro q hq
    obtain ⟨q, rfl⟩ : ∃ j, q = j + 30 := ⟨q - 30, by omega⟩
    simp [reach_cons, reachC_t, reachC_f, reach_nil, rootsB, GE.mem, nblt, nbeq, ptrB, ptrT, ptrV_ptr, ptrV_sl, ptrV_int, ptrV_func, ptrFn, ptrL, dep]
  have hpp : ([sl 3 0 2 c, .agg #[iv x, iv y], .agg #[iv u, iv v]] : List Value).flatMap (ptrV dep) = [3] := rfl
  refine callH_of (by intro _; first | trivial | rfl) ?_ (by simp)
  unfold callH0
  simp only [hpp, hm reachN (by decide)]
  simp [optAll, renV_func, renFn, renL, renV_ptr, renV_agg, dep, idx, nbeq, renB, renT, renL_eq, renV_int, renV_sl, e, mergeB, renV_tuple, nblt]
end
section
variable (Z0 Z1 : Blk) (c d1 d2 : Nat) {cs1 cs2 : List Value} {own1 own2 : Bool} {p1 p2 : List Int} (hp1 : PoC cs1 p1) (h01 : 0 < p1.length) (h61 : p1.length ≤ 60) (hp2 : PoC cs2 p2) (h02 : 0 < p2.length) (h62 : p2.length ≤ 60)
include hp1 h01 h61 hp2 h02 h62
theorem h49C_2 (x y : Int) : callH LL 49 [sl 2 0 2 c, .agg #[iv x, iv y], .func (.func 38) #[] #[]] [Z0, Z1, .cells [sl 3 0 p1.length d1, sl 4 0 p2.length d2] 1 false true, .cells cs1 1 true own1, .cells cs2 1 true own2] =
    some ⟨.func (.func 75) #[] #[pp 5, pp 6, pp 7], [Z0, Z1, .cells [sl 3 0 p1.length d1, sl 4 0 p2.length d2] 1 false true, .cells cs1 1 true own1, .cells cs2 1 true own2, bxP 2 2 c, .cells [.func (.func 38) #[] #[]] 1 false true, bxR x y], [2, 3, 4], []⟩ := by
  have e : LL.run 49 [sl 0 0 2 c, .agg #[iv x, iv y], .func (.func 38) #[] #[]] [.cells [sl 1 0 p1.length d1, sl 2 0 p2.length d2] 1 false true, .cells cs1 1 true own1, .cells cs2 1 true own2] = some ⟨.func (.func 75) #[] #[pp 3, pp 4, pp 5], [bxP 0 2 c, .cells [.func (.func 38) #[] #[]] 1 false true, bxR x y], []⟩ := by
    refine go (by decide) ?_
    rw [run49 _ _ _ (by simp)]
    simp (maxSteps := 1000000) (disch := first | omega | decide | assumption | simp [scal])
  have hm : ∀ q : Nat, 30 < q → reach [Z0, Z1, .cells [sl 3 0 p1.length d1, sl 4 0 p2.length d2] 1 false true, .cells cs1 1 true own1, .cells cs2 1 true own2] 0 q [2] [] = [2, 3, 4] := by
    intro q hq
    obtain ⟨q, rfl⟩ : ∃ j, q = j + 30 := ⟨q - 30, by omega⟩
    simp [reach_cons, reachC_t, reachC_f, reach_nil, rootsB, GE.mem, nblt, nbeq, ptrB, ptrT, ptrV_ptr, ptrV_sl, ptrV_int, ptrV_func, ptrFn, ptrL, dep]
  have hpp : ([sl 2 0 2 c, .agg #[iv x, iv y], .func (.func 38) #[] #[]] : List Value).flatMap (ptrV dep) = [2] := rfl
  refine callH_of (by intro _; first | trivial | rfl) ?_ (by simp)
  unfold callH0
  simp only [hpp, hm reachN (by decide)]
  simp [optAll, renV_func, renFn, renL, renV_ptr, renV_agg, dep, idx, nbeq, renB, renT, renL_eq, renV_int, renV_sl, e, mergeB, renV_tuple, nblt]
theorem h48C_2 (x y : Int) (hb1 : evB x y p1.reverse 0 1 = true) (hb2 : evB x y p2.reverse 0 1 = true) : callH LL 48 [.func (.func 75) #[] #[pp 5, pp 6, pp 7]] [Z0, Z1, .cells [sl 3 0 p1.length d1, sl 4 0 p2.length d2] 1 false true, .cells cs1 1 true own1, .cells cs2 1 true own2, bxP 2 2 c, .cells [.func (.func 38) #[] #[]] 1 false true, bxR x y] =
    some ⟨iv (chN [sgP p1 x y, sgP p2 x y] 0 0 : Nat), [Z0, Z1, .cells [sl 3 0 p1.length d1, sl 4 0 p2.length d2] 1 false true, .cells cs1 1 true own1, .cells cs2 1 true own2, bxP 2 2 c, .cells [.func (.func 38) #[] #[]] 1 false true, bxR x y], [5, 2, 3, 4, 6, 7], []⟩ := by
  have e := r48_2 x y c p1.length d1 p2.length d2 (cs1 := cs1) (sgP p1 x y) (sgP p2 x y) (own1 := own1) (own2 := own2) (fun l n => k38 6 d1 rfl hp1 h01 h61 x y hb1) (fun l n => k38 7 d2 rfl hp2 h02 h62 x y hb2)
  generalize chN _ 0 0 = N2 at *
  have hm : ∀ q : Nat, 30 < q → reach [Z0, Z1, .cells [sl 3 0 p1.length d1, sl 4 0 p2.length d2] 1 false true, .cells cs1 1 true own1, .cells cs2 1 true own2, bxP 2 2 c, .cells [.func (.func 38) #[] #[]] 1 false true, bxR x y] 0 q [5, 6, 7] [] = [5, 2, 3, 4, 6, 7] := by
    intro q hq
    obtain ⟨q, rfl⟩ : ∃ j, q = j + 30 := ⟨q - 30, by omega⟩
    simp [reach_cons, reachC_t, reachC_f, reach_nil, rootsB, GE.mem, nblt, nbeq, ptrB, ptrT, ptrV_ptr, ptrV_sl, ptrV_int, ptrV_func, ptrFn, ptrL, dep]
  have hpp : ([.func (.func 75) #[] #[pp 5, pp 6, pp 7]] : List Value).flatMap (ptrV dep) = [5, 6, 7] := rfl
  refine callH_of (by intro _; first | trivial | rfl) ?_ (by simp)
  unfold callH0
  simp only [hpp, hm reachN (by decide)]
  simp [optAll, renV_func, renFn, renL, renV_ptr, renV_agg, dep, idx, nbeq, renB, renT, renL_eq, renV_int, renV_sl, e, mergeB, renV_tuple, nblt]
end
section
variable (Z0 Z1 Z2 : Blk) (c d1 d2 d3 : Nat) {cs1 cs2 cs3 : List Value} {own1 own2 own3 : Bool} {p1 p2 p3 : List Int} (hp1 : PoC cs1 p1) (h01 : 0 < p1.length) (h61 : p1.length ≤ 60) (hp2 : PoC cs2 p2) (h02 : 0 < p2.length) (h62 : p2.length ≤ 60) (hp3 : PoC cs3 p3) (h03 : 0 < p3.length) (h63 : p3.length ≤ 60)
include hp1 h01 h61 hp2 h02 h62 hp3 h03 h63
theorem h52A_3 (x y u v : Int) (hb1 : evB x y p1.reverse 0 1 = true) (hb2 : evB x y p2.reverse 0 1 = true) (hb3 : evB x y p3.reverse 0 1 = true) (hb1b : evB u v p1.reverse 0 1 = true) (hb2b : evB u v p2.reverse 0 1 = true) (hb3b : evB u v p3.reverse 0 1 = true) : callH LL 52 [sl 3 0 3 c, .agg #[iv x, iv y], .agg #[iv u, iv v]] [Z0, Z1, Z2, .cells [sl 4 0 p1.length d1, sl 5 0 p2.length d2, sl 6 0 p3.length d3] 1 false true, .cells cs1 1 true own1, .cells cs2 1 true own2, .cells cs3 1 true own3] =
    some ⟨iv ((chN [sgP p1 x y, sgP p2 x y, sgP p3 x y] 0 0 : Nat) - (chN [sgP p1 u v, sgP p2 u v, sgP p3 u v] 0 0 : Nat) : Int), [Z0, Z1, Z2, .cells [sl 4 0 p1.length d1, sl 5 0 p2.length d2, sl 6 0 p3.length d3] 1 false true, .cells cs1 1 true own1, .cells cs2 1 true own2, .cells cs3 1 true own3], [3, 4, 5, 6], []⟩ := by
  have e := r52_3 c d1 d2 d3 (own1 := own1) (own2 := own2) (own3 := own3) hp1 h01 h61 hp2 h02 h62 hp3 h03 h63 x y u v hb1 hb2 hb3 hb1b hb2b hb3b
  generalize chN [sgP p1 x y, sgP p2 x y, sgP p3 x y] 0 0 = N1 at *
  generalize chN [sgP p1 u v, sgP p2 u v, sgP p3 u v] 0 0 = N2 at *
  have hm : ∀ q : Nat, 30 < q → reach [Z0, Z1, Z2, .cells [sl 4 0 p1.length d1, sl 5 0 p2.length d2, sl 6 0 p3.length d3] 1 false true, .cells cs1 1 true own1, .cells cs2 1 true own2, .cells cs3 1 true own3] 0 q [3] [] = [3, 4, 5, 6] := by
    intro q hq
    obtain ⟨q, rfl⟩ : ∃ j, q = j + 30 := ⟨q - 30, by omega⟩
    simp [reach_cons, reachC_t, reachC_f, reach_nil, rootsB, GE.mem, nblt, nbeq, ptrB, ptrT, ptrV_ptr, ptrV_sl, ptrV_int, ptrV_func, ptrFn, ptrL, dep]
  have hpp : ([sl 3 0 3 c, .agg #[iv x, iv y], .agg #[iv u, iv v]] : List Value).flatMap (ptrV dep) = [3] := rfl
  refine callH_of (by intro _; first | trivial | rfl) ?_ (by simp)
  unfold callH0
  simp only [hpp, hm reachN (by decide)]
  simp [optAll, renV_func, renFn, renL, renV_ptr, renV_agg, dep, idx, nbeq, renB, renT, renL_eq, renV_int, renV_sl, e, mergeB, renV_tuple, nblt]
end
section
variable (Z1 Z2 : Blk) (c d1 d2 d3 : Nat) {cs1 cs2 cs3 : List Value} {own1 own2 own3 : Bool} {p1 p2 p3 : List Int} (hp1 : PoC cs1 p1) (h01 : 0 < p1.length) (h61 : p1.length ≤ 60) (hp2 : PoC cs2 p2) (h02 : 0 < p2.length) (h62 : p2.length ≤ 60) (hp3 : PoC cs3 p3) (h03 : 0 < p3.length) (h63 : p3.length ≤ 60)
include hp1 h01 h61 hp2 h02 h62 hp3 h03 h63
theorem h52B_3 (x y u v : Int) (hb1 : evB x y p1.reverse 0 1 = true) (hb2 : evB x y p2.reverse 0 1 = true) (hb3 : evB x y p3.reverse 0 1 = true) (hb1b : evB u v p1.reverse 0 1 = true) (hb2b : evB u v p2.reverse 0 1 = true) (hb3b : evB u v p3.reverse 0 1 = true) : callH LL 52 [sl 3 0 3 c, .agg #[iv x, iv y], .agg #[iv u, iv v]] [.cells cs1 1 true own1, Z1, Z2, .cells [sl 0 0 p1.length d1, sl 4 0 p2.length d2, sl 5 0 p3.length d3] 1 false true, .cells cs2 1 true own2, .cells cs3 1 true own3] =
    some ⟨iv ((chN [sgP p1 x y, sgP p2 x y, sgP p3 x y] 0 0 : Nat) - (chN [sgP p1 u v, sgP p2 u v, sgP p3 u v] 0 0 : Nat) : Int), [.cells cs1 1 true own1, Z1, Z2, .cells [sl 0 0 p1.length d1, sl 4 0 p2.length d2, sl 5 0 p3.length d3] 1 false true, .cells cs2 1 true own2, .cells cs3 1 true own3], [3, 0, 4, 5], []⟩ := by
  have e := r52_3 c d1 d2 d3 (own1 := own1) (own2 := own2) (own3 := own3) hp1 h01 h61 hp2 h02 h62 hp3 h03 h63 x y u v hb1 hb2 hb3 hb1b hb2b hb3b
  generalize chN [sgP p1 x y, sgP p2 x y, sgP p3 x y] 0 0 = N1 at *
  generalize chN [sgP p1 u v, sgP p2 u v, sgP p3 u v] 0 0 = N2 at *
  have hm : ∀ q : Nat, 30 < q → reach [.cells cs1 1 true own1, Z1, Z2, .cells [sl 0 0 p1.length d1, sl 4 0 p2.length d2, sl 5 0 p3.length d3] 1 false true, .cells cs2 1 true own2, .cells cs3 1 true own3] 0 q [3] [] = [3, 0, 4, 5] := by
    intro q hq
    obtain ⟨q, rfl⟩ : ∃ j, q = j + 30 := ⟨q - 30, by omega⟩
    simp [reach_cons, reachC_t, reachC_f, reach_nil, rootsB, GE.mem, nblt, nbeq, ptrB, ptrT, ptrV_ptr, ptrV_sl, ptrV_int, ptrV_func, ptrFn, ptrL, dep]
  have hpp : ([sl 3 0 3 c, .agg #[iv x, iv y], .agg #[iv u, iv v]] : List Value).flatMap (ptrV dep) = [3] := rfl
  refine callH_of (by intro _; first | trivial | rfl) ?_ (by simp)
  unfold callH0
  simp only [hpp, hm reachN (by decide)]
  simp [optAll, renV_func, renFn, renL, renV_ptr, renV_agg, dep, idx, nbeq, renB, renT, renL_eq, renV_int, renV_sl, e, mergeB, renV_tuple, nblt]
end
section
variable (Z0 Z1 : Blk) (c d1 d2 d3 : Nat) {cs1 cs2 cs3 : List Value} {own1 own2 own3 : Bool} {p1 p2 p3 : List Int} (hp1 : PoC cs1 p1) (h01 : 0 < p1.length) (h61 : p1.length ≤ 60) (hp2 : PoC cs2 p2) (h02 : 0 < p2.length) (h62 : p2.length ≤ 60) (hp3 : PoC cs3 p3) (h03 : 0 < p3.length) (h63 : p3.length ≤ 60)
include hp1 h01 h61 hp2 h02 h62 hp3 h03 h63
theorem h49C_3 (x y : Int) : callH LL 49 [sl 2 0 3 c, .agg #[iv x, iv y], .func (.func 38) #[] #[]] [Z0, Z1, .cells [sl 3 0 p1.length d1, sl 4 0 p2.length d2, sl 5 0 p3.length d3] 1 false true, .cells cs1 1 true own1, .cells cs2 1 true own2, .cells cs3 1 true own3] =
    some ⟨.func (.func 75) #[] #[pp 6, pp 7, pp 8], [Z0, Z1, .cells [sl 3 0 p1.length d1, sl 4 0 p2.length d2, sl 5 0 p3.length d3] 1 false true, .cells cs1 1 true own1, .cells cs2 1 true own2, .cells cs3 1 true own3, bxP 2 3 c, .cells [.func (.func 38) #[] #[]] 1 false true, bxR x y], [2, 3, 4, 5], []⟩ := by
  have e : LL.run 49 [sl 0 0 3 c, .agg #[iv x, iv y], .func (.func 38) #[] #[]] [.cells [sl 1 0 p1.length d1, sl 2 0 p2.length d2, sl 3 0 p3.length d3] 1 false true, .cells cs1 1 true own1, .cells cs2 1 true own2, .cells cs3 1 true own3] = some ⟨.func (.func 75) #[] #[pp 4, pp 5, pp 6], [bxP 0 3 c, .cells [.func (.func 38) #[] #[]] 1 false true, bxR x y], []⟩ := by
    refine go (by decide) ?_
    rw [run49 _ _ _ (by simp)]
    simp (maxSteps := 1000000) (disch := first | omega | decide | assumption | simp [scal])
  have hm : ∀ q : Nat, 30 < q → reach [Z0, Z1, .cells [sl 3 0 p1.length d1, sl 4 0 p2.length d2, sl 5 0 p3.length d3] 1 false true, .cells cs1 1 true own1, .cells cs2 1 true own2, .cells cs3 1 true own3] 0 q [2] [] = [2, 3, 4, 5] := by
    intro q hq
    obtain ⟨q, rfl⟩ : ∃ j, q = j + 30 := ⟨q - 30, by omega⟩
    simp [reach_cons, reachC_t, reachC_f, reach_nil, rootsB, GE.mem, nblt, nbeq, ptrB, ptrT, ptrV_ptr, ptrV_sl, ptrV_int, ptrV_func, ptrFn, ptrL, dep]
  have hpp : ([sl 2 0 3 c, .agg #[iv x, iv y], .func (.func 38) #[] #[]] : List Value).flatMap (ptrV dep) = [2] := rfl
  refine callH_of (by intro _; first | trivial | rfl) ?_ (by simp)
  unfold callH0
  simp only [hpp, hm reachN (by decide)]
  simp [optAll, renV_func, renFn, renL, renV_ptr, renV_agg, dep, idx, nbeq, renB, renT, renL_eq, renV_int, renV_sl, e, mergeB, renV_tuple, nblt]
theorem h48C_3 (x y : Int) (hb1 : evB x y p1.reverse 0 1 = true) (hb2 : evB x y p2.reverse 0 1 = true) (hb3 : evB x y p3.reverse 0 1 = true) : callH LL 48 [.func (.func 75) #[] #[pp 6, pp 7, pp 8]] [Z0, Z1, .cells [sl 3 0 p1.length d1, sl 4 0 p2.length d2, sl 5 0 p3.length d3] 1 false true, .cells cs1 1 true own1, .cells cs2 1 true own2, .cells cs3 1 true own3, bxP 2 3 c, .cells [.func (.func 38) #[] #[]] 1 false true, bxR x y] =
    some ⟨iv (chN [sgP p1 x y, sgP p2 x y, sgP p3 x y] 0 0 : Nat), [Z0, Z1, .cells [sl 3 0 p1.length d1, sl 4 0 p2.length d2, sl 5 0 p3.length d3] 1 false true, .cells cs1 1 true own1, .cells cs2 1 true own2, .cells cs3 1 true own3, bxP 2 3 c, .cells [.func (.func 38) #[] #[]] 1 false true, bxR x y], [6, 2, 3, 4, 5, 7, 8], []⟩ := by
  have e := r48_3 x y c p1.length d1 p2.length d2 p3.length d3 (cs1 := cs1) (sgP p1 x y) (sgP p2 x y) (sgP p3 x y) (own1 := own1) (own2 := own2) (own3 := own3) (fun l n => k38 6 d1 rfl hp1 h01 h61 x y hb1) (fun l n => k38 7 d2 rfl hp2 h02 h62 x y hb2) (fun l n => k38 8 d3 rfl hp3 h03 h63 x y hb3)
  generalize chN _ 0 0 = N2 at *
  have hm : ∀ q : Nat, 30 < q → reach [Z0, Z1, .cells [sl 3 0 p1.length d1, sl 4 0 p2.length d2, sl 5 0 p3.length d3] 1 false true, .cells cs1 1 true own1, .cells cs2 1 true own2, .cells cs3 1 true own3, bxP 2 3 c, .cells [.func (.func 38) #[] #[]] 1 false true, bxR x y] 0 q [6, 7, 8] [] = [6, 2, 3, 4, 5, 7, 8] := by
    intro q hq
    obtain ⟨q, rfl⟩ : ∃ j, q = j + 30 := ⟨q - 30, by omega⟩
    simp [reach_cons, reachC_t, reachC_f, reach_nil, rootsB, GE.mem, nblt, nbeq, ptrB, ptrT, ptrV_ptr, ptrV_sl, ptrV_int, ptrV_func, ptrFn, ptrL, dep]
  have hpp : ([.func (.func 75) #[] #[pp 6, pp 7, pp 8]] : List Value).flatMap (ptrV dep) = [6, 7, 8] := rfl
  refine callH_of (by intro _; first | trivial | rfl) ?_ (by simp)
  unfold callH0
  simp only [hpp, hm reachN (by decide)]
  simp [optAll, renV_func, renFn, renL, renV_ptr, renV_agg, dep, idx, nbeq, renB, renT, renL_eq, renV_int, renV_sl, e, mergeB, renV_tuple, nblt]
end
section
variable (Z0 Z1 Z2 : Blk) (c d1 d2 d3 d4 : Nat) {cs1 cs2 cs3 cs4 : List Value} {own1 own2 own3 own4 : Bool} {p1 p2 p3 p4 : List Int} (hp1 : PoC cs1 p1) (h01 : 0 < p1.length) (h61 : p1.length ≤ 60) (hp2 : PoC cs2 p2) (h02 : 0 < p2.length) (h62 : p2.length ≤ 60) (hp3 : PoC cs3 p3) (h03 : 0 < p3.length) (h63 : p3.length ≤ 60) (hp4 : PoC cs4 p4) (h04 : 0 < p4.length) (h64 : p4.length ≤ 60)
include hp1 h01 h61 hp2 h02 h62 hp3 h03 h63 hp4 h04 h64
theorem h52A_4 (x y u v : Int) (hb1 : evB x y p1.reverse 0 1 = true) (hb2 : evB x y p2.reverse 0 1 = true) (hb3 : evB x y p3.reverse 0 1 = true) (hb4 : evB x y p4.reverse 0 1 = true) (hb1b : evB u v p1.reverse 0 1 = true) (hb2b : evB u v p2.reverse 0 1 = true) (hb3b : evB u v p3.reverse 0 1 = true) (hb4b : evB u v p4.reverse 0 1 = true) : callH LL 52 [sl 3 0 4 c, .agg #[iv x, iv y], .agg #[iv u, iv v]] [Z0, Z1, Z2, .cells [sl 4 0 p1.length d1, sl 5 0 p2.length d2, sl 6 0 p3.length d3, sl 7 0 p4.length d4] 1 false true, .cells cs1 1 true own1, .cells cs2 1 true own2, .cells cs3 1 true own3, .cells cs4 1 true own4] =
    some ⟨iv ((chN [sgP p1 x y, sgP p2 x y, sgP p3 x y, sgP p4 x y] 0 0 : Nat) - (chN [sgP p1 u v, sgP p2 u v, sgP p3 u v, sgP p4 u v] 0 0 : Nat) : Int), [Z0, Z1, Z2, .cells [sl 4 0 p1.length d1, sl 5 0 p2.length d2, sl 6 0 p3.length d3, sl 7 0 p4.length d4] 1 false true, .cells cs1 1 true own1, .cells cs2 1 true own2, .cells cs3 1 true own3, .cells cs4 1 true own4], [3, 4, 5, 6, 7], []⟩ := by
  have e := r52_4 c d1 d2 d3 d4 (own1 := own1) (own2 := own2) (own3 := own3) (own4 := own4) hp1 h01 h61 hp2 h02 h62 hp3 h03 h63 hp4 h04 h64 x y u v hb1 hb2 hb3 hb4 hb1b hb2b hb3b hb4b
  generalize chN [sgP p1 x y, sgP p2 x y, sgP p3 x y, sgP p4 x y] 0 0 = N1 at *
  generalize chN [sgP p1 u v, sgP p2 u v, sgP p3 u v, sgP p4 u v] 0 0 = N2 at *
  have hm : ∀ q : Nat, 30 < q → reach [Z0, Z1, Z2, .cells [sl 4 0 p1.length d1, sl 5 0 p2.length d2, sl 6 0 p3.length d3, sl 7 0 p4.length d4] 1 false true, .cells cs1 1 true own1, .cells cs2 1 true own2, .cells cs3 1 true own3, .cells cs4 1 true own4] 0 q [3] [] = [3, 4, 5, 6, 7] := by
    intro q hq
    obtain ⟨q, rfl⟩ : ∃ j, q = j + 30 := ⟨q - 30, by omega⟩
    simp [reach_cons, reachC_t, reachC_f, reach_nil, rootsB, GE.mem, nblt, nbeq, ptrB, ptrT, ptrV_ptr, ptrV_sl, ptrV_int, ptrV_func, ptrFn, ptrL, dep]
  have hpp : ([sl 3 0 4 c, .agg #[iv x, iv y], .agg #[iv u, iv v]] : List Value).flatMap (ptrV dep) = [3] := rfl
  refine callH_of (by intro _; first | trivial | rfl) ?_ (by simp)
  unfold callH0
  simp only [hpp, hm reachN (by decide)]
  simp [optAll, renV_func, renFn, renL, renV_ptr, renV_agg, dep, idx, nbeq, renB, renT, renL_eq, renV_int, renV_sl, e, mergeB, renV_tuple, nblt]
end
section
variable (Z1 Z2 : Blk) (c d1 d2 d3 d4 : Nat) {cs1 cs2 cs3 cs4 : List Value} {own1 own2 own3 own4 : Bool} {p1 p2 p3 p4 : List Int} (hp1 : PoC cs1 p1) (h01 : 0 < p1.length) (h61 : p1.length ≤ 60) (hp2 : PoC cs2 p2) (h02 : 0 < p2.length) (h62 : p2.length ≤ 60) (hp3 : PoC cs3 p3) (h03 : 0 < p3.length) (h63 : p3.length ≤ 60) (hp4 : PoC cs4 p4) (h04 : 0 < p4.length) (h64 : p4.length ≤ 60)
include hp1 h01 h61 hp2 h02 h62 hp3 h03 h63 hp4 h04 h64
theorem h52B_4 (x y u v : Int) (hb1 : evB x y p1.reverse 0 1 = true) (hb2 : evB x y p2.reverse 0 1 = true) (hb3 : evB x y p3.reverse 0 1 = true) (hb4 : evB x y p4.reverse 0 1 = true) (hb1b : evB u v p1.reverse 0 1 = true) (hb2b : evB u v p2.reverse 0 1 = true) (hb3b : evB u v p3.reverse 0 1 = true) (hb4b : evB u v p4.reverse 0 1 = true) : callH LL 52 [sl 3 0 4 c, .agg #[iv x, iv y], .agg #[iv u, iv v]] [.cells cs1 1 true own1, Z1, Z2, .cells [sl 0 0 p1.length d1, sl 4 0 p2.length d2, sl 5 0 p3.length d3, sl 6 0 p4.length d4] 1 false true, .cells cs2 1 true own2, .cells cs3 1 true own3, .cells cs4 1 true own4] =
    some ⟨iv ((chN [sgP p1 x y, sgP p2 x y, sgP p3 x y, sgP p4 x y] 0 0 : Nat) - (chN [sgP p1 u v, sgP p2 u v, sgP p3 u v, sgP p4 u v] 0 0 : Nat) : Int), [.cells cs1 1 true own1, Z1, Z2, .cells [sl 0 0 p1.length d1, sl 4 0 p2.length d2, sl 5 0 p3.length d3, sl 6 0 p4.length d4] 1 false true, .cells cs2 1 true own2, .cells cs3 1 true own3, .cells cs4 1 true own4], [3, 0, 4, 5, 6], []⟩ := by
  have e := r52_4 c d1 d2 d3 d4 (own1 := own1) (own2 := own2) (own3 := own3) (own4 := own4) hp1 h01 h61 hp2 h02 h62 hp3 h03 h63 hp4 h04 h64 x y u v hb1 hb2 hb3 hb4 hb1b hb2b hb3b hb4b
  generalize chN [sgP p1 x y, sgP p2 x y, sgP p3 x y, sgP p4 x y] 0 0 = N1 at *
  generalize chN [sgP p1 u v, sgP p2 u v, sgP p3 u v, sgP p4 u v] 0 0 = N2 at *
  have hm : ∀ q : Nat, 30 < q → reach [.cells cs1 1 true own1, Z1, Z2, .cells [sl 0 0 p1.length d1, sl 4 0 p2.length d2, sl 5 0 p3.length d3, sl 6 0 p4.length d4] 1 false true, .cells cs2 1 true own2, .cells cs3 1 true own3, .cells cs4 1 true own4] 0 q [3] [] = [3, 0, 4, 5, 6] := by
    intro q hq
    obtain ⟨q, rfl⟩ : ∃ j, q = j + 30 := ⟨q - 30, by omega⟩
    simp [reach_cons, reachC_t, reachC_f, reach_nil, rootsB, GE.mem, nblt, nbeq, ptrB, ptrT, ptrV_ptr, ptrV_sl, ptrV_int, ptrV_func, ptrFn, ptrL, dep]
  have hpp : ([sl 3 0 4 c, .agg #[iv x, iv y], .agg #[iv u, iv v]] : List Value).flatMap (ptrV dep) = [3] := rfl
  refine callH_of (by intro _; first | trivial | rfl) ?_ (by simp)
  unfold callH0
  simp only [hpp, hm reachN (by decide)]
  simp [optAll, renV_func, renFn, renL, renV_ptr, renV_agg, dep, idx, nbeq, renB, renT, renL_eq, renV_int, renV_sl, e, mergeB, renV_tuple, nblt]
end
section
variable (Z0 Z1 : Blk) (c d1 d2 d3 d4 : Nat) {cs1 cs2 cs3 cs4 : List Value} {own1 own2 own3 own4 : Bool} {p1 p2 p3 p4 : List Int} (hp1 : PoC cs1 p1) (h01 : 0 < p1.length) (h61 : p1.length ≤ 60) (hp2 : PoC cs2 p2) (h02 : 0 < p2.length) (h62 : p2.length ≤ 60) (hp3 : PoC cs3 p3) (h03 : 0 < p3.length) (h63 : p3.length ≤ 60) (hp4 : PoC cs4 p4) (h04 : 0 < p4.length) (h64 : p4.length ≤ 60)
include hp1 h01 h61 hp2 h02 h62 hp3 h03 h63 hp4 h04 h64
theorem h49C_4 (x y : Int) : callH LL 49 [sl 2 0 4 c, .agg #[iv x, iv y], .func (.func 38) #[] #[]] [Z0, Z1, .cells [sl 3 0 p1.length d1, sl 4 0 p2.length d2, sl 5 0 p3.length d3, sl 6 0 p4.length d4] 1 false true, .cells cs1 1 true own1, .cells cs2 1 true own2, .cells cs3 1 true own3, .cells cs4 1 true own4] =
    some ⟨.func (.func 75) #[] #[pp 7, pp 8, pp 9], [Z0, Z1, .cells [sl 3 0 p1.length d1, sl 4 0 p2.length d2, sl 5 0 p3.length d3, sl 6 0 p4.length d4] 1 false true, .cells cs1 1 true own1, .cells cs2 1 true own2, .cells cs3 1 true own3, .cells cs4 1 true own4, bxP 2 4 c, .cells [.func (.func 38) #[] #[]] 1 false true, bxR x y], [2, 3, 4, 5, 6], []⟩ := by
  have e : LL.run 49 [sl 0 0 4 c, .agg #[iv x, iv y], .func (.func 38) #[] #[]] [.cells [sl 1 0 p1.length d1, sl 2 0 p2.length d2, sl 3 0 p3.length d3, sl 4 0 p4.length d4] 1 false true, .cells cs1 1 true own1, .cells cs2 1 true own2, .cells cs3 1 true own3, .cells cs4 1 true own4] = some ⟨.func (.func 75) #[] #[pp 5, pp 6, pp 7], [bxP 0 4 c, .cells [.func (.func 38) #[] #[]] 1 false true, bxR x y], []⟩ := by
    refine go (by decide) ?_
    rw [run49 _ _ _ (by simp)]
    simp (maxSteps := 1000000) (disch := first | omega | decide | assumption | simp [scal])
  have hm : ∀ q : Nat, 30 < q → reach [Z0, Z1, .cells [sl 3 0 p1.length d1, sl 4 0 p2.length d2, sl 5 0 p3.length d3, sl 6 0 p4.length d4] 1 false true, .cells cs1 1 true own1, .cells cs2 1 true own2, .cells cs3 1 true own3, .cells cs4 1 true own4] 0 q [2] [] = [2, 3, 4, 5, 6] := by
    intro q hq
    obtain ⟨q, rfl⟩ : ∃ j, q = j + 30 := ⟨q - 30, by omega⟩
    simp [reach_cons, reachC_t, reachC_f, reach_nil, rootsB, GE.mem, nblt, nbeq, ptrB, ptrT, ptrV_ptr, ptrV_sl, ptrV_int, ptrV_func, ptrFn, ptrL, dep]
  have hpp : ([sl 2 0 4 c, .agg #[iv x, iv y], .func (.func 38) #[] #[]] : List Value).flatMap (ptrV dep) = [2] := rfl
  refine callH_of (by intro _; first | trivial | rfl) ?_ (by simp)
  unfold callH0
  simp only [hpp, hm reachN (by decide)]
  simp [optAll, renV_func, renFn, renL, renV_ptr, renV_agg, dep, idx, nbeq, renB, renT, renL_eq, renV_int, renV_sl, e, mergeB, renV_tuple, nblt]
theorem h48C_4 (x y : Int) (hb1 : evB x y p1.reverse 0 1 = true) (hb2 : evB x y p2.reverse 0 1 = true) (hb3 : evB x y p3.reverse 0 1 = true) (hb4 : evB x y p4.reverse 0 1 = true) : callH LL 48 [.func (.func 75) #[] #[pp 7, pp 8, pp 9]] [Z0, Z1, .cells [sl 3 0 p1.length d1, sl 4 0 p2.length d2, sl 5 0 p3.length d3, sl 6 0 p4.length d4] 1 false true, .cells cs1 1 true own1, .cells cs2 1 true own2, .cells cs3 1 true own3, .cells cs4 1 true own4, bxP 2 4 c, .cells [.func (.func 38) #[] #[]] 1 false true, bxR x y] =
    some ⟨iv (chN [sgP p1 x y, sgP p2 x y, sgP p3 x y, sgP p4 x y] 0 0 : Nat), [Z0, Z1, .cells [sl 3 0 p1.length d1, sl 4 0 p2.length d2, sl 5 0 p3.length d3, sl 6 0 p4.length d4] 1 false true, .cells cs1 1 true own1, .cells cs2 1 true own2, .cells cs3 1 true own3, .cells cs4 1 true own4, bxP 2 4 c, .cells [.func (.func 38) #[] #[]] 1 false true, bxR x y], [7, 2, 3, 4, 5, 6, 8, 9], []⟩ := by
  have e := r48_4 x y c p1.length d1 p2.length d2 p3.length d3 p4.length d4 (cs1 := cs1) (sgP p1 x y) (sgP p2 x y) (sgP p3 x y) (sgP p4 x y) (own1 := own1) (own2 := own2) (own3 := own3) (own4 := own4) (fun l n => k38 6 d1 rfl hp1 h01 h61 x y hb1) (fun l n => k38 7 d2 rfl hp2 h02 h62 x y hb2) (fun l n => k38 8 d3 rfl hp3 h03 h63 x y hb3) (fun l n => k38 9 d4 rfl hp4 h04 h64 x y hb4)
  generalize chN _ 0 0 = N2 at *
  have hm : ∀ q : Nat, 30 < q → reach [Z0, Z1, .cells [sl 3 0 p1.length d1, sl 4 0 p2.length d2, sl 5 0 p3.length d3, sl 6 0 p4.length d4] 1 false true, .cells cs1 1 true own1, .cells cs2 1 true own2, .cells cs3 1 true own3, .cells cs4 1 true own4, bxP 2 4 c, .cells [.func (.func 38) #[] #[]] 1 false true, bxR x y] 0 q [7, 8, 9] [] = [7, 2, 3, 4, 5, 6, 8, 9] := by
    intro q hq
    obtain ⟨q, rfl⟩ : ∃ j, q = j + 30 := ⟨q - 30, by omega⟩
    simp [reach_cons, reachC_t, reachC_f, reach_nil, rootsB, GE.mem, nblt, nbeq, ptrB, ptrT, ptrV_ptr, ptrV_sl, ptrV_int, ptrV_func, ptrFn, ptrL, dep]
  have hpp : ([.func (.func 75) #[] #[pp 7, pp 8, pp 9]] : List Value).flatMap (ptrV dep) = [7, 8, 9] := rfl
  refine callH_of (by intro _; first | trivial | rfl) ?_ (by simp)
  unfold callH0
  simp only [hpp, hm reachN (by decide)]
  simp [optAll, renV_func, renFn, renL, renV_ptr, renV_agg, dep, idx, nbeq, renB, renT, renL_eq, renV_int, renV_sl, e, mergeB, renV_tuple, nblt]
end
section
variable (b c : Nat) {cs : List Value} {own : Bool} {p : List Int} {h : List Blk} (hb : h[b]? = some (.cells cs 1 true own)) (hp : PoC cs p)
include hb hp
/-- how many roots the chain counts between two fractions -/
def cntV (p : List Int) (x y u v : Int) : Int := if betE p x y u v = 0 then (vAt (stu p) x y : Int) - vAt (stu p) u v else 0
theorem k25 (hl : p.length ≤ 4000000000) (x y u v : Int) (hS : betE p x y u v = 0 → stuB p = true ∧ evA (stu p) x y = true ∧ evA (stu p) u v = true) :
    callH LL 25 [sl b 0 p.length c, .agg #[iv x, iv y], .agg #[iv u, iv v]] h = some ⟨.tuple #[iv (cntV p x y u v), iv (betE p x y u v)], h, [b], []⟩ := by
  refine callH_1 rfl hb noIdB_flat (args' := [sl 0 0 p.length c, .agg #[iv x, iv y], .agg #[iv u, iv v]]) (by simp [renV, dep, optAll, idx, nbeq]) (go (by decide) ?_) fun _ => rfl
  have a51 := fun R => k51 0 c (h := .cells cs 1 true own :: R) rfl hp hl x y u v
  unfold cntV
  rw [run25 _ _ _ (by simp)]
  by_cases h1 : betE p x y u v = 0
  · obtain ⟨s1, s2, s3⟩ := hS h1
    have a43 := fun Z1 Z2 => k43 0 c (h := [.cells cs 1 true own, Z1, Z2]) rfl hp s1
    rw [if_pos h1, h1]
    rw [h1] at a51
    clear hS h1
    unfold vAt
    rcases stu_cases s1 with ⟨q1, q2, hq⟩ | ⟨q1, q2, q3, hq⟩ | ⟨q1, q2, q3, q4, hq⟩
    · rw [hq] at a43 s2 s3 ⊢
      obtain ⟨e1, f1, g1⟩ := evA_mem s2 (q := q1) (by simp)
      obtain ⟨e1b, _, _⟩ := evA_mem s3 (q := q1) (by simp)
      obtain ⟨e2, f2, g2⟩ := evA_mem s2 (q := q2) (by simp)
      obtain ⟨e2b, _, _⟩ := evA_mem s3 (q := q2) (by simp)
      have a52 := fun Z0 Z1 Z2 => h52A_2 Z0 Z1 Z2 2 q1.length q2.length (own1 := true) (own2 := true) PoC_zm f1 g1 PoC_zm f2 g2 x y u v e1 e2 e1b e2b
      simp only [List.map_cons, List.map_nil]
      simp only [stBk, stC, zB, List.map_cons, List.map_nil, List.length_cons, List.length_nil, Nat.reduceAdd, List.cons_append, List.nil_append] at a43 a52
      clear s1 s2 s3 hq e1 f1 g1 e1b e2 f2 g2 e2b
      generalize chN [sgP q1 x y, sgP q2 x y] 0 0 = N1 at *
      generalize chN [sgP q1 u v, sgP q2 u v] 0 0 = N2 at *
      generalize zm q1 = L1 at *
      generalize zm q2 = L2 at *
      simp (maxSteps := 1000000) (disch := first | omega | decide | assumption | simp [scal]) [loadA_eq ia_24, a51, a43, a52]
    · rw [hq] at a43 s2 s3 ⊢
      obtain ⟨e1, f1, g1⟩ := evA_mem s2 (q := q1) (by simp)
      obtain ⟨e1b, _, _⟩ := evA_mem s3 (q := q1) (by simp)
      obtain ⟨e2, f2, g2⟩ := evA_mem s2 (q := q2) (by simp)
      obtain ⟨e2b, _, _⟩ := evA_mem s3 (q := q2) (by simp)
      obtain ⟨e3, f3, g3⟩ := evA_mem s2 (q := q3) (by simp)
      obtain ⟨e3b, _, _⟩ := evA_mem s3 (q := q3) (by simp)
      have a52 := fun Z0 Z1 Z2 => h52A_3 Z0 Z1 Z2 3 q1.length q2.length q3.length (own1 := true) (own2 := true) (own3 := true) PoC_zm f1 g1 PoC_zm f2 g2 PoC_zm f3 g3 x y u v e1 e2 e3 e1b e2b e3b
      simp only [List.map_cons, List.map_nil]
      simp only [stBk, stC, zB, List.map_cons, List.map_nil, List.length_cons, List.length_nil, Nat.reduceAdd, List.cons_append, List.nil_append] at a43 a52
      clear s1 s2 s3 hq e1 f1 g1 e1b e2 f2 g2 e2b e3 f3 g3 e3b
      generalize chN [sgP q1 x y, sgP q2 x y, sgP q3 x y] 0 0 = N1 at *
      generalize chN [sgP q1 u v, sgP q2 u v, sgP q3 u v] 0 0 = N2 at *
      generalize zm q1 = L1 at *
      generalize zm q2 = L2 at *
      generalize zm q3 = L3 at *
      simp (maxSteps := 1000000) (disch := first | omega | decide | assumption | simp [scal]) [loadA_eq ia_24, a51, a43, a52]
    · rw [hq] at a43 s2 s3 ⊢
      obtain ⟨e1, f1, g1⟩ := evA_mem s2 (q := q1) (by simp)
      obtain ⟨e1b, _, _⟩ := evA_mem s3 (q := q1) (by simp)
      obtain ⟨e2, f2, g2⟩ := evA_mem s2 (q := q2) (by simp)
      obtain ⟨e2b, _, _⟩ := evA_mem s3 (q := q2) (by simp)
      obtain ⟨e3, f3, g3⟩ := evA_mem s2 (q := q3) (by simp)
      obtain ⟨e3b, _, _⟩ := evA_mem s3 (q := q3) (by simp)
      obtain ⟨e4, f4, g4⟩ := evA_mem s2 (q := q4) (by simp)
      obtain ⟨e4b, _, _⟩ := evA_mem s3 (q := q4) (by simp)
      have a52 := fun Z0 Z1 Z2 => h52A_4 Z0 Z1 Z2 4 q1.length q2.length q3.length q4.length (own1 := true) (own2 := true) (own3 := true) (own4 := true) PoC_zm f1 g1 PoC_zm f2 g2 PoC_zm f3 g3 PoC_zm f4 g4 x y u v e1 e2 e3 e4 e1b e2b e3b e4b
      simp only [List.map_cons, List.map_nil]
      simp only [stBk, stC, zB, List.map_cons, List.map_nil, List.length_cons, List.length_nil, Nat.reduceAdd, List.cons_append, List.nil_append] at a43 a52
      clear s1 s2 s3 hq e1 f1 g1 e1b e2 f2 g2 e2b e3 f3 g3 e3b e4 f4 g4 e4b
      generalize chN [sgP q1 x y, sgP q2 x y, sgP q3 x y, sgP q4 x y] 0 0 = N1 at *
      generalize chN [sgP q1 u v, sgP q2 u v, sgP q3 u v, sgP q4 u v] 0 0 = N2 at *
      generalize zm q1 = L1 at *
      generalize zm q2 = L2 at *
      generalize zm q3 = L3 at *
      generalize zm q4 = L4 at *
      simp (maxSteps := 1000000) (disch := first | omega | decide | assumption | simp [scal]) [loadA_eq ia_24, a51, a43, a52]
  · rw [if_neg h1]
    generalize betE p x y u v = e at *
    simp (maxSteps := 1000000) (disch := first | omega | decide | assumption | simp [scal]) [loadA_eq ia_24, a51, h1]
/-- the error of Changes -/
def chgE (p : List Int) (x y : Int) : Int := if chkE p ≠ 0 then chkE p else if goodR x y = true then 0 else 1
def chgV (p : List Int) (x y : Int) : Int := if chgE p x y = 0 then (vAt (stu p) x y : Int) else 0
theorem k23 (hl : p.length ≤ 4000000000) (x y : Int) (hS : chgE p x y = 0 → stuB p = true ∧ evA (stu p) x y = true) :
    callH LL 23 [sl b 0 p.length c, .agg #[iv x, iv y]] h = some ⟨.tuple #[iv (chgV p x y), iv (chgE p x y)], h, [b], []⟩ := by
  refine callH_1 rfl hb noIdB_flat (args' := [sl 0 0 p.length c, .agg #[iv x, iv y]]) (by simp [renV, dep, optAll, idx, nbeq]) (go (by decide) ?_) fun _ => rfl
  have a21 := fun R => k21 0 c (h := .cells cs 1 true own :: R) rfl hp hl
  have a37 := fun h => k37 x y h
  unfold chgV
  rw [run23 _ _ _ (by simp)]
  by_cases h1 : chkE p = 0
  · cases h2 : goodR x y
    · have h3 : chgE p x y = 1 := by unfold chgE; rw [if_neg (by simp [h1]), h2]; rfl
      rw [h1] at a21
      rw [h2] at a37
      rw [h3, if_neg (by decide)]
      simp (maxSteps := 1000000) (disch := first | omega | decide | assumption | simp [scal]) [loadA_eq ia_24, a21, a37]
    · have h3 : chgE p x y = 0 := by unfold chgE; rw [if_neg (by simp [h1]), h2]; rfl
      rw [h1] at a21
      rw [h2] at a37
      obtain ⟨s1, s2⟩ := hS h3
      have a43 := fun Z1 => k43 0 c (h := [.cells cs 1 true own, Z1]) rfl hp s1
      rw [h3, if_pos rfl]
      clear hS h1 h2 h3
      unfold vAt
      rcases stu_cases s1 with ⟨q1, q2, hq⟩ | ⟨q1, q2, q3, hq⟩ | ⟨q1, q2, q3, q4, hq⟩
      · rw [hq] at a43 s2 ⊢
        obtain ⟨e1, f1, g1⟩ := evA_mem s2 (q := q1) (by simp)
        obtain ⟨e2, f2, g2⟩ := evA_mem s2 (q := q2) (by simp)
        have a49 := fun Z0 Z1 => h49C_2 Z0 Z1 2 q1.length q2.length (own1 := true) (own2 := true) PoC_zm f1 g1 PoC_zm f2 g2 x y
        have a48 := fun Z0 Z1 => h48C_2 Z0 Z1 2 q1.length q2.length (own1 := true) (own2 := true) PoC_zm f1 g1 PoC_zm f2 g2 x y e1 e2
        simp only [List.map_cons, List.map_nil]
        simp only [stBk, stC, zB, List.map_cons, List.map_nil, List.length_cons, List.length_nil, Nat.reduceAdd, List.cons_append, List.nil_append] at a43 a48 a49
        clear s1 s2 hq e1 f1 g1 e2 f2 g2
        generalize chN [sgP q1 x y, sgP q2 x y] 0 0 = N1 at *
        generalize zm q1 = L1 at *
        generalize zm q2 = L2 at *
        simp (maxSteps := 1000000) (disch := first | omega | decide | assumption | simp [scal]) [loadA_eq ia_24, a21, a37, a43, a48, a49]
      · rw [hq] at a43 s2 ⊢
        obtain ⟨e1, f1, g1⟩ := evA_mem s2 (q := q1) (by simp)
        obtain ⟨e2, f2, g2⟩ := evA_mem s2 (q := q2) (by simp)
        obtain ⟨e3, f3, g3⟩ := evA_mem s2 (q := q3) (by simp)
        have a49 := fun Z0 Z1 => h49C_3 Z0 Z1 3 q1.length q2.length q3.length (own1 := true) (own2 := true) (own3 := true) PoC_zm f1 g1 PoC_zm f2 g2 PoC_zm f3 g3 x y
        have a48 := fun Z0 Z1 => h48C_3 Z0 Z1 3 q1.length q2.length q3.length (own1 := true) (own2 := true) (own3 := true) PoC_zm f1 g1 PoC_zm f2 g2 PoC_zm f3 g3 x y e1 e2 e3
        simp only [List.map_cons, List.map_nil]
        simp only [stBk, stC, zB, List.map_cons, List.map_nil, List.length_cons, List.length_nil, Nat.reduceAdd, List.cons_append, List.nil_append] at a43 a48 a49
        clear s1 s2 hq e1 f1 g1 e2 f2 g2 e3 f3 g3
        generalize chN [sgP q1 x y, sgP q2 x y, sgP q3 x y] 0 0 = N1 at *
        generalize zm q1 = L1 at *
        generalize zm q2 = L2 at *
        generalize zm q3 = L3 at *
        simp (maxSteps := 1000000) (disch := first | omega | decide | assumption | simp [scal]) [loadA_eq ia_24, a21, a37, a43, a48, a49]
      · rw [hq] at a43 s2 ⊢
        obtain ⟨e1, f1, g1⟩ := evA_mem s2 (q := q1) (by simp)
        obtain ⟨e2, f2, g2⟩ := evA_mem s2 (q := q2) (by simp)
        obtain ⟨e3, f3, g3⟩ := evA_mem s2 (q := q3) (by simp)
        obtain ⟨e4, f4, g4⟩ := evA_mem s2 (q := q4) (by simp)
        have a49 := fun Z0 Z1 => h49C_4 Z0 Z1 4 q1.length q2.length q3.length q4.length (own1 := true) (own2 := true) (own3 := true) (own4 := true) PoC_zm f1 g1 PoC_zm f2 g2 PoC_zm f3 g3 PoC_zm f4 g4 x y
        have a48 := fun Z0 Z1 => h48C_4 Z0 Z1 4 q1.length q2.length q3.length q4.length (own1 := true) (own2 := true) (own3 := true) (own4 := true) PoC_zm f1 g1 PoC_zm f2 g2 PoC_zm f3 g3 PoC_zm f4 g4 x y e1 e2 e3 e4
        simp only [List.map_cons, List.map_nil]
        simp only [stBk, stC, zB, List.map_cons, List.map_nil, List.length_cons, List.length_nil, Nat.reduceAdd, List.cons_append, List.nil_append] at a43 a48 a49
        clear s1 s2 hq e1 f1 g1 e2 f2 g2 e3 f3 g3 e4 f4 g4
        generalize chN [sgP q1 x y, sgP q2 x y, sgP q3 x y, sgP q4 x y] 0 0 = N1 at *
        generalize zm q1 = L1 at *
        generalize zm q2 = L2 at *
        generalize zm q3 = L3 at *
        generalize zm q4 = L4 at *
        simp (maxSteps := 1000000) (disch := first | omega | decide | assumption | simp [scal]) [loadA_eq ia_24, a21, a37, a43, a48, a49]
  · have h3 : chgE p x y = chkE p := by unfold chgE; rw [if_pos h1]
    rw [h3, if_neg h1]
    generalize chkE p = e at *
    simp (maxSteps := 1000000) (disch := first | omega | decide | assumption | simp [scal]) [loadA_eq ia_24, a21, h1]
end
end Go.Proofs.Ytkmompbfcgjgmaa.nt
namespace Go.Proofs.Ytkmompbfcgjgmaa.nt
open Go.GE
set_option linter.unusedVariables false
set_option linter.unusedSimpArgs false
set_option linter.unusedSectionVars false
set_option maxRecDepth 100000
set_option maxHeartbeats 4000000
attribute [local simp] runOps_nil runOps_cons runOpsF_nil runOpsF_cons fstS_some fstF_some opStep_eq want_none oStep_true oStep_false fin_pure fin_read fin_alloc fin_write storeB wrN cellV addWr o_move o_assign o_pick o_alloc o_box o_load o_store o_nilCheck o_bin o_un o_extract o_callV o_callB o_callI callV_f callV_y callV_fc o_makeFunc partsA Instr.fill builtin_len builtin_max2 bin_add bin_sub bin_mul bin_quo bin_rem bin_lss bin_leq bin_gtr bin_geq bin_eql bin_neq un_neg un_not bin_shr bin_shl wrap_u64_id opd opds optAll putO nbeq nblt constOk isC ops sub cl cr co bodyOf thenS_normal thenS_ret thenS_exit thenS_goto afterN_normal afterN_ret afterN_exit afterN_goto condS_true condS_false blockS_normal blockS_ret blockS_exit blockS_goto headS normS normK_eq fixS_nil fixS_cons fix1 fixV emptyB keepO_nil keepO_cons roundC_normal roundC_exit roundC_ret roundC_goto sweep_eq sweepD rnm pickR pickW rootsB ptrT renT ptrFn renFn ptrB_flat ptrB_non renB_flat renB_non plainS_some drawS_some fpsOk disj unord range' dropTo enumT undef wrap_i64_id Value.cells mkCells ptrTo scal cellsAt rdN endS_ret resultsA Option.bind_some tupV finish reachN dep ptrL_eq ptrL renL_eq renL ptrV_bool ptrV_int ptrV_string ptrV_nilFunc ptrV_nilIface ptrV_nilPtr ptrV_ptr ptrV_nilSl ptrV_sl ptrV_iface ptrV_agg ptrV_tuple ptrV_func renV_bool renV_int renV_string renV_nilFunc renV_nilIface renV_nilPtr renV_ptr renV_nilSl renV_sl renV_iface renV_agg renV_tuple renV_func gotoS_goto gotoS_normal gotoS_exit gotoS_ret skip_seq sliceE bnd bndHi intOf optOpd keepT_nil keepT_cons keepC_t keepC_f lk_nil lk_cons lkC_t lkC_f has_nil has_cons hasC_t hasC_f rep_nil rep_cons repC_t repC_f put_eq putC_t putC_f mem_nil mem_cons memC_t memC_f idx_nil idx_cons idxC_t idxC_f reach_nil reachP_cons reachQ_t reachQ_f ptrB_dead renB_dead ins_eq
attribute [local simp] n27_1s n27_4s n27_6s n27_9s n27_10s n27_8s n27_11s n27_7s n27_5s n27_3s n27_13s n27_16s n27_21s n27_23s n27_24s n27_22s n27_20s n27_27s n27_28s n27_26s n27_25s n27_19s n27_18s n27_18g n27_17s n27_15s n27_30s n27_31s n27_29s n27_14s n27_12s n27_2s n27_0s Try.f27
theorem app_g {h : List Blk} {b c l : Nat} {V : List Value} {v : Value} {fl : Bool} {rd : List Nat} (hl : V.length = l) (h60 : l ≤ 60) (h1 : cellV v = true) : appS h 1 24 b 0 l c (some (.cells V 1 false true)) (some (1, [v], fl, rd)) = some ⟨.slice (some ⟨h.length, 0, none⟩) (l + 1) (l + 1), h.set b .dead ++ [.cells (V ++ [v]) 1 false true], b :: rd, [b]⟩ := by
  have hr := rdN_all V l 0 (by omega)
  simp only [appS, Nat.mul_one, hr, List.drop_zero, List.all_cons, List.all_nil, h1]
  rw [if_pos (by refine ⟨by omega, by omega, trivial, rfl⟩)]
  rfl
section
variable (x y u v : Int) (c : Nat) {cs : List Value} {own : Bool} (p1  : List Int) (hp : PoC cs p1)
include hp
theorem l27s_1 (h1 : 1 < p1.length) (h60 : p1.length ≤ 60) (hB : allB (slp p1) = true) : lpB Try.prog LL ⟨27, 34, 1, none⟩ n27_18 n27_19 ⟨[(4, pp 1), (5, pp 2), (9, sl 3 0 1 1), (10, sl 0 0 p1.length c)], [.cells cs 1 true own, bxR x y, bxR u v, .cells [sl 0 0 p1.length c] 1 false true], []⟩ = lpB Try.prog LL ⟨27, 34, 1, none⟩ n27_18 n27_19 ⟨[(4, pp 1), (5, pp 2), (9, sl 3 0 2 2), (10, sl 4 0 (slp p1).length (slp p1).length)], [.cells cs 1 true own, bxR x y, bxR u v, .cells [sl 0 0 p1.length c, sl 4 0 (slp p1).length (slp p1).length] 1 false true, zB (slp p1)], []⟩ := by
  have a54 := k54 0 c (p := p1) (h := [.cells cs 1 true own, bxR x y, bxR u v, .cells [sl 0 0 p1.length c] 1 false true]) rfl hp (by omega) h60 (sm_slp hB)
  have e1 : (1 : Int) < p1.length := by omega
  have el : (slp p1).length = p1.length - 1 := slp_len
  have ag := fun hp rd => app_g (h := hp) (b := 3) (c := 1) (l := 1) (V := [sl 0 0 p1.length c]) (v := sl 4 0 (p1.length - 1) (p1.length - 1)) (fl := false) (rd := rd) rfl (by omega) rfl
  rw [el]
  simp only [zB, List.length_cons, List.length_nil, Nat.reduceAdd, List.cons_append, List.nil_append] at a54 ag ⊢
  clear hB el
  generalize zm (slp p1) = L at *
  generalize p1.length - 1 = m at *
  generalize hX : lpB Try.prog LL ⟨27, 34, 1, none⟩ n27_18 n27_19 ⟨[(4, pp 1), (5, pp 2), (9, sl 3 0 2 2), (10, sl 4 0 m m)], _, []⟩ = X
  rw [lpB_eq]
  simp (maxSteps := 1000000) (disch := first | omega | decide | assumption | simp [scal]) [loadA_eq ia_24, o_indexAddrS es_76, ze_76, o_buildSlice es_76 ze_76 (by decide) ba_76_1, lenA_sl lk_71, ap_76, builtin_append ni_76, h1, e1, a54, append_some ap_76, srcCells, ag, hX]
end
section
variable (x y u v : Int) (c : Nat) {cs : List Value} {own : Bool} (p1 q2 : List Int) (hp : PoC cs p1)
include hp
theorem l27e_2 (h1 : q2.length = 1) : lpB Try.prog LL ⟨27, 34, 1, none⟩ n27_18 n27_19 ⟨[(4, pp 1), (5, pp 2), (9, sl 3 0 2 2), (10, sl 4 0 q2.length q2.length)], [.cells cs 1 true own, bxR x y, bxR u v, .cells [sl 0 0 p1.length c, sl 4 0 q2.length q2.length] 1 false true, zB q2], []⟩ = some (.exit 0, ⟨[(4, pp 1), (5, pp 2), (9, sl 3 0 2 2)], [.cells cs 1 true own, bxR x y, bxR u v, .cells [sl 0 0 p1.length c, sl 4 0 q2.length q2.length] 1 false true, zB q2], []⟩) := by
  rw [lpB_eq]
  simp only [zB, h1]
  simp (maxSteps := 1000000) (disch := first | omega | decide | assumption | simp [scal]) [loadA_eq ia_24, o_indexAddrS es_76, ze_76, o_buildSlice es_76 ze_76 (by decide) ba_76_1, lenA_sl lk_71, ap_76, builtin_append ni_76]
theorem l27s_2 (h1 : 1 < q2.length) (h60 : q2.length ≤ 60) (hB : allB (slp q2) = true) : lpB Try.prog LL ⟨27, 34, 1, none⟩ n27_18 n27_19 ⟨[(4, pp 1), (5, pp 2), (9, sl 3 0 2 2), (10, sl 4 0 q2.length q2.length)], [.cells cs 1 true own, bxR x y, bxR u v, .cells [sl 0 0 p1.length c, sl 4 0 q2.length q2.length] 1 false true, zB q2], []⟩ = lpB Try.prog LL ⟨27, 34, 1, none⟩ n27_18 n27_19 ⟨[(4, pp 1), (5, pp 2), (9, sl 3 0 3 3), (10, sl 5 0 (slp q2).length (slp q2).length)], [.cells cs 1 true own, bxR x y, bxR u v, .cells [sl 0 0 p1.length c, sl 4 0 q2.length q2.length, sl 5 0 (slp q2).length (slp q2).length] 1 false true, zB q2, zB (slp q2)], []⟩ := by
  have a54 := k54 4 q2.length (p := q2) (h := [.cells cs 1 true own, bxR x y, bxR u v, .cells [sl 0 0 p1.length c, sl 4 0 q2.length q2.length] 1 false true, zB q2]) rfl PoC_zm (by omega) h60 (sm_slp hB)
  have e1 : (1 : Int) < q2.length := by omega
  have el : (slp q2).length = q2.length - 1 := slp_len
  have ag := fun hp rd => app_g (h := hp) (b := 3) (c := 2) (l := 2) (V := [sl 0 0 p1.length c, sl 4 0 q2.length q2.length]) (v := sl 5 0 (q2.length - 1) (q2.length - 1)) (fl := false) (rd := rd) rfl (by omega) rfl
  rw [el]
  simp only [zB, List.length_cons, List.length_nil, Nat.reduceAdd, List.cons_append, List.nil_append] at a54 ag ⊢
  clear hB el
  generalize zm (slp q2) = L at *
  generalize q2.length - 1 = m at *
  generalize hX : lpB Try.prog LL ⟨27, 34, 1, none⟩ n27_18 n27_19 ⟨[(4, pp 1), (5, pp 2), (9, sl 3 0 3 3), (10, sl 5 0 m m)], _, []⟩ = X
  rw [lpB_eq]
  simp (maxSteps := 1000000) (disch := first | omega | decide | assumption | simp [scal]) [loadA_eq ia_24, o_indexAddrS es_76, ze_76, o_buildSlice es_76 ze_76 (by decide) ba_76_1, lenA_sl lk_71, ap_76, builtin_append ni_76, h1, e1, a54, append_some ap_76, srcCells, ag, hX]
end
section
variable (x y u v : Int) (c : Nat) {cs : List Value} {own : Bool} (p1 q2 q3 : List Int) (hp : PoC cs p1)
include hp
theorem l27e_3 (h1 : q3.length = 1) : lpB Try.prog LL ⟨27, 34, 1, none⟩ n27_18 n27_19 ⟨[(4, pp 1), (5, pp 2), (9, sl 3 0 3 3), (10, sl 5 0 q3.length q3.length)], [.cells cs 1 true own, bxR x y, bxR u v, .cells [sl 0 0 p1.length c, sl 4 0 q2.length q2.length, sl 5 0 q3.length q3.length] 1 false true, zB q2, zB q3], []⟩ = some (.exit 0, ⟨[(4, pp 1), (5, pp 2), (9, sl 3 0 3 3)], [.cells cs 1 true own, bxR x y, bxR u v, .cells [sl 0 0 p1.length c, sl 4 0 q2.length q2.length, sl 5 0 q3.length q3.length] 1 false true, zB q2, zB q3], []⟩) := by
  rw [lpB_eq]
  simp only [zB, h1]
  simp (maxSteps := 1000000) (disch := first | omega | decide | assumption | simp [scal]) [loadA_eq ia_24, o_indexAddrS es_76, ze_76, o_buildSlice es_76 ze_76 (by decide) ba_76_1, lenA_sl lk_71, ap_76, builtin_append ni_76]
theorem l27s_3 (h1 : 1 < q3.length) (h60 : q3.length ≤ 60) (hB : allB (slp q3) = true) : lpB Try.prog LL ⟨27, 34, 1, none⟩ n27_18 n27_19 ⟨[(4, pp 1), (5, pp 2), (9, sl 3 0 3 3), (10, sl 5 0 q3.length q3.length)], [.cells cs 1 true own, bxR x y, bxR u v, .cells [sl 0 0 p1.length c, sl 4 0 q2.length q2.length, sl 5 0 q3.length q3.length] 1 false true, zB q2, zB q3], []⟩ = lpB Try.prog LL ⟨27, 34, 1, none⟩ n27_18 n27_19 ⟨[(4, pp 1), (5, pp 2), (9, sl 3 0 4 4), (10, sl 6 0 (slp q3).length (slp q3).length)], [.cells cs 1 true own, bxR x y, bxR u v, .cells [sl 0 0 p1.length c, sl 4 0 q2.length q2.length, sl 5 0 q3.length q3.length, sl 6 0 (slp q3).length (slp q3).length] 1 false true, zB q2, zB q3, zB (slp q3)], []⟩ := by
  have a54 := k54 5 q3.length (p := q3) (h := [.cells cs 1 true own, bxR x y, bxR u v, .cells [sl 0 0 p1.length c, sl 4 0 q2.length q2.length, sl 5 0 q3.length q3.length] 1 false true, zB q2, zB q3]) rfl PoC_zm (by omega) h60 (sm_slp hB)
  have e1 : (1 : Int) < q3.length := by omega
  have el : (slp q3).length = q3.length - 1 := slp_len
  have ag := fun hp rd => app_g (h := hp) (b := 3) (c := 3) (l := 3) (V := [sl 0 0 p1.length c, sl 4 0 q2.length q2.length, sl 5 0 q3.length q3.length]) (v := sl 6 0 (q3.length - 1) (q3.length - 1)) (fl := false) (rd := rd) rfl (by omega) rfl
  rw [el]
  simp only [zB, List.length_cons, List.length_nil, Nat.reduceAdd, List.cons_append, List.nil_append] at a54 ag ⊢
  clear hB el
  generalize zm (slp q3) = L at *
  generalize q3.length - 1 = m at *
  generalize hX : lpB Try.prog LL ⟨27, 34, 1, none⟩ n27_18 n27_19 ⟨[(4, pp 1), (5, pp 2), (9, sl 3 0 4 4), (10, sl 6 0 m m)], _, []⟩ = X
  rw [lpB_eq]
  simp (maxSteps := 1000000) (disch := first | omega | decide | assumption | simp [scal]) [loadA_eq ia_24, o_indexAddrS es_76, ze_76, o_buildSlice es_76 ze_76 (by decide) ba_76_1, lenA_sl lk_71, ap_76, builtin_append ni_76, h1, e1, a54, append_some ap_76, srcCells, ag, hX]
end
section
variable (x y u v : Int) (c : Nat) {cs : List Value} {own : Bool} (p1 q2 q3 q4 : List Int) (hp : PoC cs p1)
include hp
theorem l27e_4 (h1 : q4.length = 1) : lpB Try.prog LL ⟨27, 34, 1, none⟩ n27_18 n27_19 ⟨[(4, pp 1), (5, pp 2), (9, sl 3 0 4 4), (10, sl 6 0 q4.length q4.length)], [.cells cs 1 true own, bxR x y, bxR u v, .cells [sl 0 0 p1.length c, sl 4 0 q2.length q2.length, sl 5 0 q3.length q3.length, sl 6 0 q4.length q4.length] 1 false true, zB q2, zB q3, zB q4], []⟩ = some (.exit 0, ⟨[(4, pp 1), (5, pp 2), (9, sl 3 0 4 4)], [.cells cs 1 true own, bxR x y, bxR u v, .cells [sl 0 0 p1.length c, sl 4 0 q2.length q2.length, sl 5 0 q3.length q3.length, sl 6 0 q4.length q4.length] 1 false true, zB q2, zB q3, zB q4], []⟩) := by
  rw [lpB_eq]
  simp only [zB, h1]
  simp (maxSteps := 1000000) (disch := first | omega | decide | assumption | simp [scal]) [loadA_eq ia_24, o_indexAddrS es_76, ze_76, o_buildSlice es_76 ze_76 (by decide) ba_76_1, lenA_sl lk_71, ap_76, builtin_append ni_76]
end
/-- a polynomial and its derivatives -/
def fou (p : List Int) : List (List Int) := bif Nat.beq p.length 2 then [p, slp p] else bif Nat.beq p.length 3 then [p, slp p, slp (slp p)] else [p, slp p, slp (slp p), slp (slp (slp p))]
def fouB (p : List Int) : Bool := Nat.ble 2 p.length && Nat.ble p.length 4 && allB (slp p) && allB (slp (slp p)) && allB (slp (slp (slp p)))
def fouV (p : List Int) (x y u v : Int) : Int := if betE p x y u v = 0 then (vAt (fou p) x y : Int) - vAt (fou p) u v else 0
section
variable (b c : Nat) {cs : List Value} {own : Bool} {p : List Int} {h : List Blk} (hb : h[b]? = some (.cells cs 1 true own)) (hp : PoC cs p)
include hb hp
theorem k27 (hl : p.length ≤ 4000000000) (x y u v : Int) (hS : betE p x y u v = 0 → fouB p = true ∧ evA (fou p) x y = true ∧ evA (fou p) u v = true) :
    callH LL 27 [sl b 0 p.length c, .agg #[iv x, iv y], .agg #[iv u, iv v]] h = some ⟨.tuple #[iv (fouV p x y u v), iv (betE p x y u v)], h, [b], []⟩ := by
  refine callH_1 rfl hb noIdB_flat (args' := [sl 0 0 p.length c, .agg #[iv x, iv y], .agg #[iv u, iv v]]) (by simp [renV, dep, optAll, idx, nbeq]) (go (by decide) ?_) fun _ => rfl
  have a51 := fun R => k51 0 c (h := .cells cs 1 true own :: R) rfl hp hl x y u v
  unfold fouV
  rw [run27 _ _ _ (by simp)]
  by_cases h1 : betE p x y u v = 0
  · obtain ⟨s1, s2, s3⟩ := hS h1
    rw [if_pos h1, h1]
    rw [h1] at a51
    clear hS h1
    unfold vAt
    unfold fouB at s1
    simp only [Bool.and_eq_true] at s1
    obtain ⟨⟨⟨⟨b1, b2⟩, b3⟩, b4⟩, b5⟩ := s1
    have b1 := Nat.le_of_ble_eq_true b1
    have b2 := Nat.le_of_ble_eq_true b2
    have l1 : (slp p).length = p.length - 1 := slp_len
    have l2 : (slp (slp p)).length = p.length - 2 := by rw [slp_len, slp_len]; omega
    have l3 : (slp (slp (slp p))).length = p.length - 3 := by rw [slp_len, slp_len, slp_len]; omega
    rcases (by omega : p.length = 2 ∨ p.length = 3 ∨ p.length = 4) with hL | hL | hL
    · have hf : fou p = [p, (slp p)] := by unfold fou; rw [hL]; rfl
      rw [hf] at s2 s3 ⊢
      obtain ⟨e1, f1, g1⟩ := evA_mem s2 (q := p) (by simp)
      obtain ⟨e1b, _, _⟩ := evA_mem s3 (q := p) (by simp)
      obtain ⟨e2, f2, g2⟩ := evA_mem s2 (q := (slp p)) (by simp)
      obtain ⟨e2b, _, _⟩ := evA_mem s3 (q := (slp p)) (by simp)
      have a52 := fun Z1 Z2 => h52B_2 Z1 Z2 2 c (slp p).length (own1 := own) (own2 := true) hp f1 g1 PoC_zm f2 g2 x y u v e1 e2 e1b e2b
      have lp := (l27s_1 x y u v c (own := own) p  hp (by omega) (by omega) b3).trans ((l27e_2 x y u v c (own := own) p (slp p) hp (by omega)))
      simp only [List.map_cons, List.map_nil]
      simp only [zB] at a52 lp
      clear s2 s3 hf e1 f1 g1 e1b e2 f2 g2 e2b b3 b4 b5
      generalize chN [sgP p x y, sgP (slp p) x y] 0 0 = N1 at *
      generalize chN [sgP p u v, sgP (slp p) u v] 0 0 = N2 at *
      rw [l1] at a52 lp
      generalize zm (slp p) = L2 at *
      rw [hL] at a51 a52 lp ⊢
      clear l1 l2 l3 b1 b2 hL
      simp only [Nat.reduceSub] at a52 lp
      simp (maxSteps := 1000000) (disch := first | omega | decide | assumption | simp [scal]) [loadA_eq ia_24, o_indexAddrS es_76, ze_76, o_buildSlice es_76 ze_76 (by decide) ba_76_1, lenA_sl lk_71, ap_76, builtin_append ni_76, a51, lp, a52]
    · have hf : fou p = [p, (slp p), (slp (slp p))] := by unfold fou; rw [hL]; rfl
      rw [hf] at s2 s3 ⊢
      obtain ⟨e1, f1, g1⟩ := evA_mem s2 (q := p) (by simp)
      obtain ⟨e1b, _, _⟩ := evA_mem s3 (q := p) (by simp)
      obtain ⟨e2, f2, g2⟩ := evA_mem s2 (q := (slp p)) (by simp)
      obtain ⟨e2b, _, _⟩ := evA_mem s3 (q := (slp p)) (by simp)
      obtain ⟨e3, f3, g3⟩ := evA_mem s2 (q := (slp (slp p))) (by simp)
      obtain ⟨e3b, _, _⟩ := evA_mem s3 (q := (slp (slp p))) (by simp)
      have a52 := fun Z1 Z2 => h52B_3 Z1 Z2 3 c (slp p).length (slp (slp p)).length (own1 := own) (own2 := true) (own3 := true) hp f1 g1 PoC_zm f2 g2 PoC_zm f3 g3 x y u v e1 e2 e3 e1b e2b e3b
      have lp := (l27s_1 x y u v c (own := own) p  hp (by omega) (by omega) b3).trans ((l27s_2 x y u v c (own := own) p (slp p) hp (by omega) (by omega) b4).trans ((l27e_3 x y u v c (own := own) p (slp p) (slp (slp p)) hp (by omega))))
      simp only [List.map_cons, List.map_nil]
      simp only [zB] at a52 lp
      clear s2 s3 hf e1 f1 g1 e1b e2 f2 g2 e2b e3 f3 g3 e3b b3 b4 b5
      generalize chN [sgP p x y, sgP (slp p) x y, sgP (slp (slp p)) x y] 0 0 = N1 at *
      generalize chN [sgP p u v, sgP (slp p) u v, sgP (slp (slp p)) u v] 0 0 = N2 at *
      rw [l1] at a52 lp
      rw [l2] at a52 lp
      generalize zm (slp (slp p)) = L3 at *
      generalize zm (slp p) = L2 at *
      rw [hL] at a51 a52 lp ⊢
      clear l1 l2 l3 b1 b2 hL
      simp only [Nat.reduceSub] at a52 lp
      simp (maxSteps := 1000000) (disch := first | omega | decide | assumption | simp [scal]) [loadA_eq ia_24, o_indexAddrS es_76, ze_76, o_buildSlice es_76 ze_76 (by decide) ba_76_1, lenA_sl lk_71, ap_76, builtin_append ni_76, a51, lp, a52]
    · have hf : fou p = [p, (slp p), (slp (slp p)), (slp (slp (slp p)))] := by unfold fou; rw [hL]; rfl
      rw [hf] at s2 s3 ⊢
      obtain ⟨e1, f1, g1⟩ := evA_mem s2 (q := p) (by simp)
      obtain ⟨e1b, _, _⟩ := evA_mem s3 (q := p) (by simp)
      obtain ⟨e2, f2, g2⟩ := evA_mem s2 (q := (slp p)) (by simp)
      obtain ⟨e2b, _, _⟩ := evA_mem s3 (q := (slp p)) (by simp)
      obtain ⟨e3, f3, g3⟩ := evA_mem s2 (q := (slp (slp p))) (by simp)
      obtain ⟨e3b, _, _⟩ := evA_mem s3 (q := (slp (slp p))) (by simp)
      obtain ⟨e4, f4, g4⟩ := evA_mem s2 (q := (slp (slp (slp p)))) (by simp)
      obtain ⟨e4b, _, _⟩ := evA_mem s3 (q := (slp (slp (slp p)))) (by simp)
      have a52 := fun Z1 Z2 => h52B_4 Z1 Z2 4 c (slp p).length (slp (slp p)).length (slp (slp (slp p))).length (own1 := own) (own2 := true) (own3 := true) (own4 := true) hp f1 g1 PoC_zm f2 g2 PoC_zm f3 g3 PoC_zm f4 g4 x y u v e1 e2 e3 e4 e1b e2b e3b e4b
      have lp := (l27s_1 x y u v c (own := own) p  hp (by omega) (by omega) b3).trans ((l27s_2 x y u v c (own := own) p (slp p) hp (by omega) (by omega) b4).trans ((l27s_3 x y u v c (own := own) p (slp p) (slp (slp p)) hp (by omega) (by omega) b5).trans ((l27e_4 x y u v c (own := own) p (slp p) (slp (slp p)) (slp (slp (slp p))) hp (by omega)))))
      simp only [List.map_cons, List.map_nil]
      simp only [zB] at a52 lp
      clear s2 s3 hf e1 f1 g1 e1b e2 f2 g2 e2b e3 f3 g3 e3b e4 f4 g4 e4b b3 b4 b5
      generalize chN [sgP p x y, sgP (slp p) x y, sgP (slp (slp p)) x y, sgP (slp (slp (slp p))) x y] 0 0 = N1 at *
      generalize chN [sgP p u v, sgP (slp p) u v, sgP (slp (slp p)) u v, sgP (slp (slp (slp p))) u v] 0 0 = N2 at *
      rw [l1] at a52 lp
      rw [l2] at a52 lp
      rw [l3] at a52 lp
      generalize zm (slp (slp (slp p))) = L4 at *
      generalize zm (slp (slp p)) = L3 at *
      generalize zm (slp p) = L2 at *
      rw [hL] at a51 a52 lp ⊢
      clear l1 l2 l3 b1 b2 hL
      simp only [Nat.reduceSub] at a52 lp
      simp (maxSteps := 1000000) (disch := first | omega | decide | assumption | simp [scal]) [loadA_eq ia_24, o_indexAddrS es_76, ze_76, o_buildSlice es_76 ze_76 (by decide) ba_76_1, lenA_sl lk_71, ap_76, builtin_append ni_76, a51, lp, a52]
  · rw [if_neg h1]
    generalize betE p x y u v = e at *
    simp (maxSteps := 1000000) (disch := first | omega | decide | assumption | simp [scal]) [loadA_eq ia_24, o_indexAddrS es_76, ze_76, o_buildSlice es_76 ze_76 (by decide) ba_76_1, lenA_sl lk_71, ap_76, builtin_append ni_76, a51, h1]
end
end Go.Proofs.Ytkmompbfcgjgmaa.nt
namespace Go.Proofs.Ytkmompbfcgjgmaa.nt
open Go.GE
set_option linter.unusedVariables false
set_option linter.unusedSimpArgs false
set_option linter.unusedSectionVars false
set_option maxRecDepth 100000
set_option maxHeartbeats 4000000
attribute [local simp] runOps_nil runOps_cons runOpsF_nil runOpsF_cons fstS_some fstF_some opStep_eq want_none oStep_true oStep_false fin_pure fin_read fin_alloc fin_write storeB wrN cellV addWr o_move o_assign o_pick o_alloc o_box o_load o_store o_nilCheck o_bin o_un o_extract o_callV o_callB o_callI callV_f callV_y callV_fc o_makeFunc partsA Instr.fill builtin_len builtin_max2 bin_add bin_sub bin_mul bin_quo bin_rem bin_lss bin_leq bin_gtr bin_geq bin_eql bin_neq un_neg un_not bin_shr bin_shl wrap_u64_id opd opds optAll putO nbeq nblt constOk isC ops sub cl cr co bodyOf thenS_normal thenS_ret thenS_exit thenS_goto afterN_normal afterN_ret afterN_exit afterN_goto condS_true condS_false blockS_normal blockS_ret blockS_exit blockS_goto headS normS normK_eq fixS_nil fixS_cons fix1 fixV emptyB keepO_nil keepO_cons roundC_normal roundC_exit roundC_ret roundC_goto sweep_eq sweepD rnm pickR pickW rootsB ptrT renT ptrFn renFn ptrB_flat ptrB_non renB_flat renB_non plainS_some drawS_some fpsOk disj unord range' dropTo enumT undef wrap_i64_id Value.cells mkCells ptrTo scal cellsAt rdN endS_ret resultsA Option.bind_some tupV finish reachN dep ptrL_eq ptrL renL_eq renL ptrV_bool ptrV_int ptrV_string ptrV_nilFunc ptrV_nilIface ptrV_nilPtr ptrV_ptr ptrV_nilSl ptrV_sl ptrV_iface ptrV_agg ptrV_tuple ptrV_func renV_bool renV_int renV_string renV_nilFunc renV_nilIface renV_nilPtr renV_ptr renV_nilSl renV_sl renV_iface renV_agg renV_tuple renV_func gotoS_goto gotoS_normal gotoS_exit gotoS_ret skip_seq sliceE bnd bndHi intOf optOpd keepT_nil keepT_cons keepC_t keepC_f lk_nil lk_cons lkC_t lkC_f has_nil has_cons hasC_t hasC_f rep_nil rep_cons repC_t repC_f put_eq putC_t putC_f mem_nil mem_cons memC_t memC_f idx_nil idx_cons idxC_t idxC_f reach_nil reachP_cons reachQ_t reachQ_f ptrB_dead renB_dead ins_eq
attribute [local simp] n35_1s n35_3s n35_4s n35_2s n35_0s Try.f35 n33_1s n33_3s n33_4s n33_2s n33_0s Try.f33 n32_1s n32_3s n32_6s n32_9s n32_10s n32_8s n32_11s n32_7s n32_5s n32_13s n32_14s n32_12s n32_4s n32_2s n32_0s Try.f32
abbrev bv (n : Int) : Value := .int .i8 n
def I8 (v : Int) : Prop := -128 ≤ v ∧ v < 128
theorem bin_andi1 {P : Program} {t : TypeId} {c : Bool} {v : Int} : binA P .and t c (.int .i64 v) (.int .i64 1) = some (.int .i64 (v % 2)) := by
  have e : (((BitVec.ofInt 64 v &&& BitVec.ofInt 64 1).toNat : Nat) : Int) = v % 2 := by
    rw [show BitVec.ofInt 64 1 = BitVec.ofNat 64 1 from rfl, BitVec.toNat_and, BitVec.toNat_ofNat, Nat.mod_eq_of_lt (by decide : 1 < 2 ^ 64), Nat.and_one_is_mod, BitVec.toNat_ofInt]
    omega
  have e' : IntKind.i64.wrap ((BitVec.ofInt 64 v &&& BitVec.ofInt 64 1).toNat : Int) = v % 2 := by rw [e]; exact wrap_i64_id (by omega) (by omega)
  show some (Value.int .i64 (IntKind.i64.wrap ((BitVec.ofInt 64 v &&& BitVec.ofInt 64 1).toNat : Int))) = _
  rw [e']
theorem k35 (a b : Int) (h : List Blk) : callH LL 35 [iv a, iv b] h = some ⟨.agg #[iv a, iv b], h, [], []⟩ := by
  refine callH_none rfl (fun _ => rfl) (go (by decide) ?_) fun _ => rfl
  rw [run35 _ _ _ (by simp)]
  simp (maxSteps := 1000000) (disch := first | omega | decide | assumption | simp [scal]) [za_24, o_build za_24 pl_24, sz_24, loadA_eq ia_24]
/-- at most -/
def leR (a b : Int × Int) : Bool := decide (a.1 * b.2 ≤ b.1 * a.2)
theorem k33 (a b u v : Int) (h1 : Sm (a * v)) (h2 : Sm (u * b)) (h : List Blk) : callH LL 33 [.agg #[iv a, iv b], .agg #[iv u, iv v]] h = some ⟨.bool (leR (a, b) (u, v)), h, [], []⟩ := by
  refine callH_none rfl (fun _ => rfl) (go (by decide) ?_) fun _ => rfl
  have w1 := h1.w
  have w2 := h2.w
  clear h1 h2
  unfold leR
  rw [run33 _ _ _ (by simp)]
  by_cases h3 : a * v ≤ u * b
  · simp (maxSteps := 1000000) (disch := first | omega | decide | assumption | simp [scal]) [o_fieldAddr fa_24_0 (by decide), loadA_eq ia_3, o_fieldAddr fa_24_1 (by decide), w1, w2, h3]
  · simp (maxSteps := 1000000) (disch := first | omega | decide | assumption | simp [scal]) [o_fieldAddr fa_24_0 (by decide), loadA_eq ia_3, o_fieldAddr fa_24_1 (by decide), w1, w2, h3]
/-- a fraction by numbers -/
def tiX (a b : Int) : Int × Int := (a.tmod 33, 2 + 2 * (b % 2))
def tie (a b u v : Int) : (Int × Int) × (Int × Int) := if (tiX u v).1 * (tiX a b).2 < (tiX a b).1 * (tiX u v).2 then (tiX u v, tiX a b) else (tiX a b, tiX u v)
abbrev agR (x : Int × Int) : Value := .agg #[iv x.1, iv x.2]
theorem tmod_bd {a : Int} (m : Int) (hm : 0 < m) : -m < a.tmod m ∧ a.tmod m < m := by
  have h1 := Int.tmod_lt_of_pos a hm
  have h2 := Int.lt_tmod_of_pos a hm
  omega
theorem k32 (a b u v : Int) (ha : I8 a) (hb : I8 b) (hu : I8 u) (hv : I8 v) (h : List Blk) : callH LL 32 [.agg #[bv a, bv b], .agg #[bv u, bv v]] h = some ⟨.tuple #[agR (tie a b u v).1, agR (tie a b u v).2], h, [], []⟩ := by
  refine callH_none rfl (fun _ => rfl) (go (by decide) ?_) fun _ => rfl
  unfold I8 at ha hb hu hv
  have w1 : IntKind.i64.wrap a = a := wrap_i64_id (by omega) (by omega)
  have w2 : IntKind.i64.wrap b = b := wrap_i64_id (by omega) (by omega)
  have w3 : IntKind.i64.wrap u = u := wrap_i64_id (by omega) (by omega)
  have w4 : IntKind.i64.wrap v = v := wrap_i64_id (by omega) (by omega)
  have m1 := tmod_bd (a := a) 33 (by decide)
  have m2 := tmod_bd (a := u) 33 (by decide)
  have a35 := fun x y h => k35 x y h
  unfold tie tiX agR
  have t1 : a.tmod 33 = a.tmod 33 := rfl
  have n1 : 0 ≤ b % 2 ∧ b % 2 ≤ 1 := by omega
  have n2 : 0 ≤ v % 2 ∧ v % 2 ≤ 1 := by omega
  have w5 : IntKind.i64.wrap (2 * (b % 2)) = 2 * (b % 2) := wrap_i64_id (by omega) (by omega)
  have w6 : IntKind.i64.wrap (2 + 2 * (b % 2)) = 2 + 2 * (b % 2) := wrap_i64_id (by omega) (by omega)
  have w7 : IntKind.i64.wrap (2 * (v % 2)) = 2 * (v % 2) := wrap_i64_id (by omega) (by omega)
  have w8 : IntKind.i64.wrap (2 + 2 * (v % 2)) = 2 + 2 * (v % 2) := wrap_i64_id (by omega) (by omega)
  have i1 := fun t c => @bin_andi1 Try.prog t c b
  have i2 := fun t c => @bin_andi1 Try.prog t c v
  generalize ha' : a.tmod 33 = am at *
  generalize hu' : u.tmod 33 = um at *
  generalize b % 2 = bm at *
  generalize v % 2 = vm at *
  have x1 : IntKind.i64.wrap am = am := wrap_i64_id (by omega) (by omega)
  have x2 : IntKind.i64.wrap um = um := wrap_i64_id (by omega) (by omega)
  have p1 : -132 ≤ am * (2 + 2 * vm) ∧ am * (2 + 2 * vm) ≤ 132 := by
    rcases (by omega : vm = 0 ∨ vm = 1) with rfl | rfl <;> omega
  have p2 : -132 ≤ um * (2 + 2 * bm) ∧ um * (2 + 2 * bm) ≤ 132 := by
    rcases (by omega : bm = 0 ∨ bm = 1) with rfl | rfl <;> omega
  have w9 : IntKind.i64.wrap (am * (2 + 2 * vm)) = am * (2 + 2 * vm) := wrap_i64_id (by omega) (by omega)
  have w10 : IntKind.i64.wrap (um * (2 + 2 * bm)) = um * (2 + 2 * bm) := wrap_i64_id (by omega) (by omega)
  clear p1 p2 m1 m2
  rw [run32 _ _ _ (by simp)]
  by_cases h1 : um * (2 + 2 * bm) < am * (2 + 2 * vm)
  · rw [if_pos h1]
    simp (maxSteps := 1000000) (disch := first | omega | decide | assumption | simp [scal]) [za_24, o_indexAddrA ea_51, loadA_eq ia_50, o_convI cv_50_3, sz_24, o_fieldAddr fa_24_0 (by decide), loadA_eq ia_3, o_fieldAddr fa_24_1 (by decide), loadA_eq ia_24, w1, w2, w3, w4, w5, w6, w7, w8, w9, w10, x1, x2, ha', hu', i1, i2, a35, h1]
  · rw [if_neg h1]
    simp (maxSteps := 1000000) (disch := first | omega | decide | assumption | simp [scal]) [za_24, o_indexAddrA ea_51, loadA_eq ia_50, o_convI cv_50_3, sz_24, o_fieldAddr fa_24_0 (by decide), loadA_eq ia_3, o_fieldAddr fa_24_1 (by decide), loadA_eq ia_24, w1, w2, w3, w4, w5, w6, w7, w8, w9, w10, x1, x2, ha', hu', i1, i2, a35, h1]
end Go.Proofs.Ytkmompbfcgjgmaa.nt
namespace Go.Proofs.Ytkmompbfcgjgmaa.nt
open Go.GE
set_option linter.unusedVariables false
set_option linter.unusedSimpArgs false
set_option linter.unusedSectionVars false
set_option maxRecDepth 100000
set_option maxHeartbeats 4000000
attribute [local simp] runOps_nil runOps_cons runOpsF_nil runOpsF_cons fstS_some fstF_some opStep_eq want_none oStep_true oStep_false fin_pure fin_read fin_alloc fin_write storeB wrN cellV addWr o_move o_assign o_pick o_alloc o_box o_load o_store o_nilCheck o_bin o_un o_extract o_callV o_callB o_callI callV_f callV_y callV_fc o_makeFunc partsA Instr.fill builtin_len builtin_max2 bin_add bin_sub bin_mul bin_quo bin_rem bin_lss bin_leq bin_gtr bin_geq bin_eql bin_neq un_neg un_not bin_shr bin_shl wrap_u64_id opd opds optAll putO nbeq nblt constOk isC ops sub cl cr co bodyOf thenS_normal thenS_ret thenS_exit thenS_goto afterN_normal afterN_ret afterN_exit afterN_goto condS_true condS_false blockS_normal blockS_ret blockS_exit blockS_goto headS normS normK_eq fixS_nil fixS_cons fix1 fixV emptyB keepO_nil keepO_cons roundC_normal roundC_exit roundC_ret roundC_goto sweep_eq sweepD rnm pickR pickW rootsB ptrT renT ptrFn renFn ptrB_flat ptrB_non renB_flat renB_non plainS_some drawS_some fpsOk disj unord range' dropTo enumT undef wrap_i64_id Value.cells mkCells ptrTo scal cellsAt rdN endS_ret resultsA Option.bind_some tupV finish reachN dep ptrL_eq ptrL renL_eq renL ptrV_bool ptrV_int ptrV_string ptrV_nilFunc ptrV_nilIface ptrV_nilPtr ptrV_ptr ptrV_nilSl ptrV_sl ptrV_iface ptrV_agg ptrV_tuple ptrV_func renV_bool renV_int renV_string renV_nilFunc renV_nilIface renV_nilPtr renV_ptr renV_nilSl renV_sl renV_iface renV_agg renV_tuple renV_func gotoS_goto gotoS_normal gotoS_exit gotoS_ret skip_seq sliceE bnd bndHi intOf optOpd keepT_nil keepT_cons keepC_t keepC_f lk_nil lk_cons lkC_t lkC_f has_nil has_cons hasC_t hasC_f rep_nil rep_cons repC_t repC_f put_eq putC_t putC_f mem_nil mem_cons memC_t memC_f idx_nil idx_cons idxC_t idxC_f reach_nil reachP_cons reachQ_t reachQ_f ptrB_dead renB_dead ins_eq
attribute [local simp] n61_1s n61_3s n61_6s n61_10s n61_13s n61_14s n61_12s n61_18s n61_20s n61_24s n61_27s n61_28s n61_26s n61_32s n61_33s n61_31s n61_30s n61_34s n61_29s n61_25s n61_23s n61_22s n61_22g n61_21s n61_19s n61_17s n61_16s n61_35s n61_15s n61_11s n61_9s n61_8s n61_8g n61_7s n61_5s n61_37s n61_38s n61_36s n61_4s n61_2s n61_0s Try.f61
def pmL (p : List Int) (b1 : Int) (j : Nat) : Int := if j = 0 then 0 else p.getD (j - 1) 0 * b1
def mulP (p : List Int) (b0 b1 : Int) : List Int := (List.range (p.length + 1)).map fun j => pmL p b1 j + p.getD j 0 * b0
theorem mulP_len {p : List Int} {b0 b1 : Int} : (mulP p b0 b1).length = p.length + 1 := by simp [mulP]
def mp2 (p : List Int) (b0 b1 : Int) (i : Nat) : List Value := (List.range (p.length + 1)).map fun j => iv (if j < i then pmL p b1 j + p.getD j 0 * b0 else if j = i then pmL p b1 j else 0)
theorem mp2_len {p : List Int} {b0 b1 : Int} {i : Nat} : (mp2 p b0 b1 i).length = p.length + 1 := by simp [mp2]
theorem mp2_at {p : List Int} {b0 b1 : Int} {i : Nat} (h : i < p.length) : (mp2 p b0 b1 i)[i]? = some (iv (pmL p b1 i)) ∧ (mp2 p b0 b1 i)[i + 1]? = some (iv 0) := by
  constructor
  · simp only [mp2, List.getElem?_map, List.getElem?_range (show i < p.length + 1 by omega), Option.map_some]
    rw [if_neg (by omega), if_pos trivial]
  · simp only [mp2, List.getElem?_map, List.getElem?_range (show i + 1 < p.length + 1 by omega), Option.map_some]
    rw [if_neg (by omega), if_neg (by omega)]
theorem mp2_set {p : List Int} {b0 b1 : Int} {i : Nat} (h : i < p.length) : ((mp2 p b0 b1 i).set i (iv (pmL p b1 i + p.getD i 0 * b0))).set (i + 1) (iv (0 + p.getD i 0 * b1)) = mp2 p b0 b1 (i + 1) := by
  apply List.ext_getElem?
  intro j
  rw [List.getElem?_set, List.length_set, mp2_len]
  by_cases hj : i + 1 = j
  · subst hj
    rw [if_pos rfl, if_pos (by omega)]
    simp only [mp2, List.getElem?_map, List.getElem?_range (show i + 1 < p.length + 1 by omega), Option.map_some]
    rw [if_neg (by omega), if_pos trivial]
    simp [pmL]
  · rw [if_neg hj, List.getElem?_set, mp2_len]
    by_cases hi : i = j
    · subst hi
      rw [if_pos rfl, if_pos (by omega)]
      simp only [mp2, List.getElem?_map, List.getElem?_range (show i < p.length + 1 by omega), Option.map_some]
      rw [if_pos (by omega)]
    · rw [if_neg hi]
      by_cases hn : j < p.length + 1
      · simp only [mp2, List.getElem?_map, List.getElem?_range hn, Option.map_some]
        by_cases h1 : j < i
        · rw [if_pos h1, if_pos (by omega)]
        · rw [if_neg h1, if_neg (by omega), if_neg (by omega), if_neg (by omega)]
      · rw [List.getElem?_eq_none (by rw [mp2_len]; omega), List.getElem?_eq_none (by rw [mp2_len]; omega)]
theorem mp2_zero {p : List Int} {b0 b1 : Int} : mp2 p b0 b1 0 = List.replicate (p.length + 1) (iv 0) := by
  apply List.ext_getElem?
  intro j
  by_cases hn : j < p.length + 1
  · simp only [mp2, List.getElem?_map, List.getElem?_range hn, Option.map_some, List.getElem?_replicate, hn, if_true, Nat.not_lt_zero, if_false]
    by_cases h : j = 0
    · simp [h, pmL]
    · simp [h]
  · rw [List.getElem?_eq_none (by rw [mp2_len]; omega), List.getElem?_eq_none (by simp; omega)]
theorem mp2_full {p : List Int} {b0 b1 : Int} : mp2 p b0 b1 p.length = zm (mulP p b0 b1) := by
  simp only [mp2, zm, mulP, List.map_map]
  refine List.map_congr_left fun j hj => ?_
  rw [List.mem_range] at hj
  simp only [Function.comp]
  by_cases h : j < p.length
  · rw [if_pos h]
  · obtain rfl : j = p.length := by omega
    rw [if_neg (by omega), if_pos rfl]
    simp
section
variable (c : Nat) {cs : List Value} {own : Bool} {p : List Int} (hp : PoC cs p) (h60 : p.length ≤ 50) (b0 b1 : Int) (hs0 : ∀ i, i < p.length → Sm (p.getD i 0 * b0) ∧ Sm (p.getD i 0 * b1) ∧ Sm (pmL p b1 i + p.getD i 0 * b0))
include hp h60 hs0
theorem l61i (i : Nat) (hi : i < p.length) :
    lpB Try.prog LL ⟨61, 45, 2, none⟩ n61_22 n61_23 ⟨[(6, iv i), (7, iv (p.getD i 0)), (24, sl 1 0 2 2), (25, iv 2), (26, iv 0), (1, sl 1 0 2 2), (5, sl 2 0 (p.length + 1) (p.length + 1)), (17, sl 0 0 p.length c), (18, iv p.length), (19, iv i)], [.cells cs 1 true own, .cells [iv b0, iv b1] 1 true true, .cells (mp2 p b0 b1 i) 1 true true], []⟩ =
      some (.exit 2, ⟨[(1, sl 1 0 2 2), (5, sl 2 0 (p.length + 1) (p.length + 1)), (17, sl 0 0 p.length c), (18, iv p.length), (19, iv i)], [.cells cs 1 true own, .cells [iv b0, iv b1] 1 true true, .cells (mp2 p b0 b1 (i + 1)) 1 true true], []⟩) := by
  obtain ⟨g1, g2⟩ := mp2_at (b0 := b0) (b1 := b1) hi
  have hset := mp2_set (b0 := b0) (b1 := b1) hi
  have hl := mp2_len (p := p) (b0 := b0) (b1 := b1) (i := i)
  obtain ⟨s1, s2, s3⟩ := hs0 i hi
  have w1 := s1.w
  have w2 := s2.w
  have w3 := s3.w
  rw [← hset]
  clear hset s1 s2 s3 hs0
  generalize mp2 p b0 b1 i = M at *
  generalize pmL p b1 i = y at *
  generalize p.getD i 0 = x at *
  have e1 : i < p.length + 1 := by omega
  have e2 : (i : Int) < (p.length : Int) + 1 := by omega
  have e3 : IntKind.i64.wrap (i : Int) = i := wrap_i64_id (by omega) (by omega)
  have e4 : IntKind.i64.wrap ((i : Int) + 1) = (i : Int) + 1 := wrap_i64_id (by omega) (by omega)
  have e5 : (i : Int) + 1 < (p.length : Int) + 1 := by omega
  have e6 : i + 1 < p.length + 1 := by omega
  have e7 : ((i : Int) + 1).toNat = i + 1 := by omega
  have e8 : 0 ≤ (i : Int) + 1 := by omega
  have g1' : ∀ h, M[i]'h = iv y := fun h => by rw [List.getElem?_eq_getElem h] at g1; exact Option.some.inj g1
  have g3 : ∀ v, (M.set i v)[i + 1]? = some (iv 0) := fun v => by rw [List.getElem?_set_ne (by omega)]; exact g2
  have g3' : ∀ v h, (M.set i v)[i + 1]'h = iv 0 := fun v h => by have := g3 v; rw [List.getElem?_eq_getElem h] at this; exact Option.some.inj this
  have g4 : ∀ h, M[i + 1]'h = iv 0 := fun h => by rw [List.getElem?_eq_getElem h] at g2; exact Option.some.inj g2
  have w2' : IntKind.i64.wrap (0 + x * b1) = x * b1 := by rw [Int.zero_add]; exact w2
  have hl2 : ∀ v, (M.set i v).length = p.length + 1 := fun v => by rw [List.length_set]; exact hl
  rw [Int.zero_add]
  rw [lpB_eq]
  simp (maxSteps := 1000000) (disch := first | omega | decide | assumption | simp [scal]) [lenA_sl lk_22, o_indexAddrS es_22, loadA_eq ia_3, sz_3, e1, e2, e3, e5, e6, g1, g1', w1, w3, hl]
  rw [lpB_eq]
  simp (maxSteps := 1000000) (disch := first | omega | decide | assumption | simp [scal]) [lenA_sl lk_22, o_indexAddrS es_22, loadA_eq ia_3, sz_3, e1, e2, e3, e4, e5, e6, e7, e8, g2, g3, g3', g4, w2, w2', hl, hl2]
  rw [lpB_eq]
  simp (maxSteps := 1000000) (disch := first | omega | decide | assumption | simp [scal]) [lenA_sl lk_22, o_indexAddrS es_22, loadA_eq ia_3, sz_3]
theorem l61 : ∀ (q i : Nat), i + q = p.length →
    lpB Try.prog LL ⟨61, 45, 2, none⟩ n61_8 n61_9 ⟨[(1, sl 1 0 2 2), (5, sl 2 0 (p.length + 1) (p.length + 1)), (17, sl 0 0 p.length c), (18, iv p.length), (19, iv i)], [.cells cs 1 true own, .cells [iv b0, iv b1] 1 true true, .cells (mp2 p b0 b1 i) 1 true true], []⟩ =
      some (.exit 0, ⟨[(5, sl 2 0 (p.length + 1) (p.length + 1))], [.cells cs 1 true own, .cells [iv b0, iv b1] 1 true true, zB (mulP p b0 b1)], []⟩) := by
  intro q
  induction q with
  | zero =>
    intro i hi
    obtain rfl : i = p.length := by omega
    rw [mp2_full]
    simp only [zB]
    generalize zm (mulP p b0 b1) = X
    rw [lpB_eq]
    simp (maxSteps := 1000000) (disch := first | omega | decide | assumption | simp [scal]) [lenA_sl lk_22, o_indexAddrS es_22, loadA_eq ia_3, sz_3]
  | succ q ih =>
    intro i hi
    have e0 : i < p.length := by omega
    have e1 : (i : Int) < p.length := by omega
    have this := ih (i + 1) (by omega)
    have li := l61i c (own := own) hp h60 b0 b1 hs0 i e0
    have p1 := hp i e0
    simp only [cast1] at this
    clear ih hs0
    generalize mp2 p b0 b1 i = M at *
    generalize mp2 p b0 b1 (i + 1) = M2 at *
    generalize p.getD i 0 = x at *
    rw [lpB_eq]
    simp (maxSteps := 1000000) (disch := first | omega | decide | assumption | simp [scal]) [lenA_sl lk_22, o_indexAddrS es_22, loadA_eq ia_3, sz_3, e0, e1, p1, li, this]
end
theorem mk22 {σ : Tm} {h : List Blk} {d : Option Nat} {ty : TypeId} {pos : String} {af : Array Edge} {g : Option (Nat × Bool)} {x y : Operand} : aop Try.prog LL σ h ⟨d, .makeSlice 22 x y, ty, pos, af, g⟩ = (match opd σ x, opd σ y with
    | some (.int _ n), some (.int _ k) => if 0 ≤ n ∧ n ≤ k ∧ k * 8 ≤ 70368744177664 ∧ k ≤ 70368744177664 then allocR h (.cells (List.replicate k.toNat (iv 0)) 1 true true) fun b => .slice (some ⟨b, 0, none⟩) n.toNat k.toNat else none
    | _, _ => none) := by
  have e1 : Try.prog.underlying 22 = some (.slice 3) := by kernel_rfl
  have e2 : (Try.prog.info? 3).map (fun i => (i.bytes, i.size)) = some (8, 1) := by kernel_rfl
  have e3 : zeroA Try.prog 3 = some (iv 0) := by kernel_rfl
  obtain ⟨i, hi, hp⟩ := Option.map_eq_some_iff.1 e2
  obtain ⟨h8, h1⟩ := Prod.mk.inj hp
  have hfl : ∀ k : Nat, (List.replicate k [iv 0]).flatten = List.replicate k (iv 0) := fun k => List.flatten_replicate_singleton
  simp only [aop, e1, e2, e3, hi, h8, h1]
  cases opd σ x with
  | none => rfl
  | some v =>
    cases v <;> try rfl
    cases opd σ y with
    | none => rfl
    | some w =>
      cases w <;> try rfl
      rename_i k1 n k2 m
      simp only [e3, hi, h8, h1]
      by_cases hc : 0 ≤ n ∧ n ≤ m ∧ m * 8 ≤ 70368744177664 ∧ m ≤ 70368744177664
      · rw [if_pos hc, if_pos ⟨hc.1, hc.2.1, by have := hc.2.2.1; omega, by have := hc.2.2.2; omega, by decide, rfl⟩]
        show allocR h (.cells ((List.replicate m.toNat [iv 0]).flatten) 1 true true) _ = _
        rw [hfl]
      · rw [if_neg hc, if_neg (fun h => hc ⟨h.1, h.2.1, by have := h.2.2.1; omega, by have := h.2.2.2.1; omega⟩)]
section
variable (b b2 c : Nat) {cs : List Value} {own : Bool} {p : List Int} {h : List Blk} (b0 b1 : Int) (hb : h[b]? = some (.cells cs 1 true own)) (hb2 : h[b2]? = some (.cells [iv b0, iv b1] 1 true true)) (hne : b ≠ b2) (hp : PoC cs p)
include hb hb2 hne hp
theorem k61 (h60 : p.length ≤ 50) (hs0 : ∀ i, i < p.length → Sm (p.getD i 0 * b0) ∧ Sm (p.getD i 0 * b1) ∧ Sm (pmL p b1 i + p.getD i 0 * b0)) : callH LL 61 [sl b 0 p.length c, sl b2 0 2 2] h = some ⟨sl h.length 0 (p.length + 1) (p.length + 1), h ++ [zB (mulP p b0 b1)], [b, b2], []⟩ := by
  have hne' : ¬ b2 = b := fun e => hne e.symm
  refine callN_2 rfl hb hb2 hne noIdB_flat noIdB_flat (args' := [sl 0 0 p.length c, sl 1 0 2 2]) (by simp [renV, dep, optAll, idx, nbeq, hne, hne']) (v := sl 2 0 (p.length + 1) (p.length + 1)) (news := [zB (mulP p b0 b1)]) (go (by decide) ?_)
    (by intro blk hb; simp only [List.mem_singleton] at hb; subst hb; exact noIdB_flat) (by simp [renV, dep])
  have l := l61 c (own := own) hp h60 b0 b1 hs0 p.length 0 (by omega)
  rw [mp2_zero] at l
  have e1 : (p.length : Int) + 2 - 1 = (p.length : Int) + 1 := by omega
  have e2 : ((p.length : Int) + 1).toNat = p.length + 1 := by omega
  have e3 : 0 ≤ (p.length : Int) + 1 := by omega
  have e4 : ((p.length : Int) + 1) * 8 ≤ 70368744177664 := by omega
  have e5 : (p.length : Int) + 1 ≤ 70368744177664 := by omega
  simp only [zB, Int.natCast_zero] at l ⊢
  clear hs0
  generalize zm (mulP p b0 b1) = X at *
  rw [run61 _ _ _ (by simp)]
  simp (maxSteps := 1000000) (disch := first | omega | decide | assumption | simp [scal]) [lenA_sl lk_22, o_indexAddrS es_22, loadA_eq ia_3, sz_3, mk22, e1, e2, e3, e4, e5, l]
end
end Go.Proofs.Ytkmompbfcgjgmaa.nt
namespace Go.Proofs.Ytkmompbfcgjgmaa.nt
open Go.GE
set_option linter.unusedVariables false
set_option linter.unusedSimpArgs false
set_option linter.unusedSectionVars false
set_option maxRecDepth 100000
set_option maxHeartbeats 4000000
attribute [local simp] runOps_nil runOps_cons runOpsF_nil runOpsF_cons fstS_some fstF_some opStep_eq want_none oStep_true oStep_false fin_pure fin_read fin_alloc fin_write storeB wrN cellV addWr o_move o_assign o_pick o_alloc o_box o_load o_store o_nilCheck o_bin o_un o_extract o_callV o_callB o_callI callV_f callV_y callV_fc o_makeFunc partsA Instr.fill builtin_len builtin_max2 bin_add bin_sub bin_mul bin_quo bin_rem bin_lss bin_leq bin_gtr bin_geq bin_eql bin_neq un_neg un_not bin_shr bin_shl wrap_u64_id opd opds optAll putO nbeq nblt constOk isC ops sub cl cr co bodyOf thenS_normal thenS_ret thenS_exit thenS_goto afterN_normal afterN_ret afterN_exit afterN_goto condS_true condS_false blockS_normal blockS_ret blockS_exit blockS_goto headS normS normK_eq fixS_nil fixS_cons fix1 fixV emptyB keepO_nil keepO_cons roundC_normal roundC_exit roundC_ret roundC_goto sweep_eq sweepD rnm pickR pickW rootsB ptrT renT ptrFn renFn ptrB_flat ptrB_non renB_flat renB_non plainS_some drawS_some fpsOk disj unord range' dropTo enumT undef wrap_i64_id Value.cells mkCells ptrTo scal cellsAt rdN endS_ret resultsA Option.bind_some tupV finish reachN dep ptrL_eq ptrL renL_eq renL ptrV_bool ptrV_int ptrV_string ptrV_nilFunc ptrV_nilIface ptrV_nilPtr ptrV_ptr ptrV_nilSl ptrV_sl ptrV_iface ptrV_agg ptrV_tuple ptrV_func renV_bool renV_int renV_string renV_nilFunc renV_nilIface renV_nilPtr renV_ptr renV_nilSl renV_sl renV_iface renV_agg renV_tuple renV_func gotoS_goto gotoS_normal gotoS_exit gotoS_ret skip_seq sliceE bnd bndHi intOf optOpd keepT_nil keepT_cons keepC_t keepC_f lk_nil lk_cons lkC_t lkC_f has_nil has_cons hasC_t hasC_f rep_nil rep_cons repC_t repC_f put_eq putC_t putC_f mem_nil mem_cons memC_t memC_f idx_nil idx_cons idxC_t idxC_f reach_nil reachP_cons reachQ_t reachQ_f ptrB_dead renB_dead ins_eq
attribute [local simp] n31_1s n31_3s n31_5s n31_8s n31_11s n31_14s n31_16s n31_17s n31_15s n31_13s n31_18s n31_12s n31_10s n31_19s n31_9s n31_7s n31_22s n31_27s n31_29s n31_30s n31_28s n31_26s n31_34s n31_36s n31_38s n31_44s n31_46s n31_47s n31_45s n31_43s n31_49s n31_48s n31_42s n31_41s n31_41g n31_40s n31_50s n31_39s n31_37s n31_35s n31_33s n31_32s n31_51s n31_31s n31_25s n31_24s n31_24g n31_23s n31_21s n31_53s n31_56s n31_60s n31_63s n31_64s n31_62s n31_68s n31_71s n31_73s n31_74s n31_72s n31_70s n31_75s n31_69s n31_67s n31_66s n31_76s n31_65s n31_61s n31_59s n31_58s n31_58g n31_57s n31_55s n31_78s n31_79s n31_77s n31_54s n31_52s n31_20s n31_6s n31_4s n31_2s n31_0s Try.f31
abbrev uv (n : Nat) : Value := .int .u8 (n : Int)
abbrev shB (r0 s0 r1 s1 r2 s2 : Int) (n : Nat) (o : Bool) (g : Int) : Blk := .cells [bv r0, bv s0, bv r1, bv s1, bv r2, bv s2, uv n, .bool o, bv g] 1 true true
theorem app_r {h : List Blk} {b c l n : Nat} {cs new : List Value} {rd : List Nat} (hn : 0 < n) (hlen : cs.length = l * 2) (hb : l + n ≤ 100) (hnew : new.all cellV = true) :
    appS h 2 16 b 0 l c (some (.cells cs 2 true true)) (some (n, new, true, rd)) = some ⟨.slice (some ⟨h.length, 0, none⟩) (l + n) (l + n), h.set b .dead ++ [.cells (cs ++ new) 2 true true], b :: rd, [b]⟩ := by
  obtain ⟨k, rfl⟩ : ∃ k, n = k + 1 := ⟨n - 1, by omega⟩
  have hr := rdN_all cs (l * 2) 0 (by omega)
  simp only [appS, hr, List.drop_zero]
  rw [if_pos (by refine ⟨by omega, by omega, trivial, hnew⟩)]
  rfl
theorem app_z {h : List Blk} {b c l o : Nat} {blk : Option Blk} {new : List Value} {rd : List Nat} {fl : Bool} : appS h 2 16 b o l c blk (some (0, new, fl, rd)) = some ⟨.slice (some ⟨b, o, none⟩) l c, h, [], []⟩ := rfl
/-- coefficients no greater than M -/
def BdM (M : Int) (p : List Int) : Prop := ∀ i, -M ≤ p.getD i 0 ∧ p.getD i 0 ≤ M
theorem mul_M {M x b : Int} (hx : -M ≤ x ∧ x ≤ M) (hb : -3 ≤ b ∧ b ≤ 3) : -(3 * M) ≤ x * b ∧ x * b ≤ 3 * M := by
  rcases (by omega : b = -3 ∨ b = -2 ∨ b = -1 ∨ b = 0 ∨ b = 1 ∨ b = 2 ∨ b = 3) with rfl | rfl | rfl | rfl | rfl | rfl | rfl <;> omega
theorem mul_M2 {M x b : Int} (hx : -M ≤ x ∧ x ≤ M) (hb : 1 ≤ b ∧ b ≤ 2) : -(2 * M) ≤ x * b ∧ x * b ≤ 2 * M := by
  rcases (by omega : b = 1 ∨ b = 2) with rfl | rfl <;> omega
theorem pmL_M {M : Int} {p : List Int} (hp : BdM M p) (hM : 0 ≤ M) {b1 : Int} (hb : 1 ≤ b1 ∧ b1 ≤ 2) (j : Nat) : -(2 * M) ≤ pmL p b1 j ∧ pmL p b1 j ≤ 2 * M := by
  unfold pmL
  split
  · omega
  · exact mul_M2 (hp _) hb
theorem BdM_mul {M : Int} {p : List Int} (hp : BdM M p) (hM : 0 ≤ M) {b0 b1 : Int} (h0 : -3 ≤ b0 ∧ b0 ≤ 3) (h1 : 1 ≤ b1 ∧ b1 ≤ 2) : BdM (5 * M) (mulP p b0 b1) := by
  intro i
  by_cases hi : i < p.length + 1
  · have e : (mulP p b0 b1).getD i 0 = pmL p b1 i + p.getD i 0 * b0 := by simp [mulP, List.getD_eq_getElem?_getD, hi]
    rw [e]
    have := mul_M (hp i) h0
    have := pmL_M hp hM h1 i
    omega
  · have e : (mulP p b0 b1).getD i 0 = 0 := by rw [List.getD_eq_getElem?_getD, List.getElem?_eq_none (by rw [mulP_len]; omega)]; rfl
    rw [e]; omega
theorem BdM_ok {M : Int} {p : List Int} (hp : BdM M p) (hM : 0 ≤ M ∧ M ≤ 100000) {b0 b1 : Int} (h0 : -3 ≤ b0 ∧ b0 ≤ 3) (h1 : 1 ≤ b1 ∧ b1 ≤ 2) : ∀ i, i < p.length → Sm (p.getD i 0 * b0) ∧ Sm (p.getD i 0 * b1) ∧ Sm (pmL p b1 i + p.getD i 0 * b0) := by
  intro i _
  have e1 := mul_M (hp i) h0
  have e2 := mul_M2 (hp i) h1
  have e3 := pmL_M hp hM.1 h1 i
  unfold Sm
  omega
/-- a root is put in its place -/
def insR : List (Int × Int) → Int × Int → List (Int × Int)
  | [], r => [r]
  | a :: l, r => if a.1 * r.2 < r.1 * a.2 then a :: insR l r else r :: a :: l
def rtC (l : List (Int × Int)) : List Value := l.flatMap fun r => [iv r.1, iv r.2]
def okRt (r : Int × Int) : Prop := -3 ≤ r.1 ∧ r.1 ≤ 3 ∧ 1 ≤ r.2 ∧ r.2 ≤ 2
theorem rt_mul {r s : Int × Int} (hr : okRt r) (hs : okRt s) : IntKind.i64.wrap (r.1 * s.2) = r.1 * s.2 := by
  unfold okRt at hr hs
  have := mul_M2 (M := 3) (x := r.1) (b := s.2) (by omega) (by omega)
  exact wrap_i64_id (by omega) (by omega)
section
variable (r0 s0 r1 s1 r2 s2 : Int) (n : Nat) (o : Bool) (g : Int)
theorem rd0 {M : Int} (p : List Int) (h60 : p.length ≤ 40) (hB : BdM M p) (hM : 0 ≤ M ∧ M ≤ 100000) (cnt : Int) (hc : 0 < cnt) (h1 : I8 r0) (h2 : I8 s0) :
    lpB Try.prog LL ⟨31, 129, 0, none⟩ n31_24 n31_25 ⟨[(1, pp 0), (2, sl 1 0 p.length p.length), (3, sl 2 0 0 0), (5, iv cnt), (6, iv 0)], [shB r0 s0 r1 s1 r2 s2 n o g, zB p, .cells (rtC []) 2 true true], []⟩ =
    lpB Try.prog LL ⟨31, 129, 0, none⟩ n31_24 n31_25 ⟨[(1, pp 0), (2, sl 1 0 (p.length + 1) (p.length + 1)), (3, sl 2 0 1 1), (5, iv cnt), (6, iv 1)], [shB r0 s0 r1 s1 r2 s2 n o g, zB (mulP p (-(r0.tmod 4)) (1 + s0 % 2)), .cells (rtC (insR [] (r0.tmod 4, 1 + s0 % 2))) 2 true true], []⟩ := by
  have m1 := tmod_bd (a := r0) 4 (by decide)
  obtain ⟨a, ha⟩ : ∃ a, r0.tmod 4 = a := ⟨_, rfl⟩
  obtain ⟨b, hb⟩ : ∃ b, s0 % 2 = b := ⟨_, rfl⟩
  have b1 : 0 ≤ b ∧ b ≤ 1 := by omega
  have i1 := fun t c => @bin_andi1 Try.prog t c s0
  rw [ha] at m1
  rw [hb] at i1
  have hr : okRt (a, 1 + b) := by unfold okRt; simp only []; omega
  rw [ha, hb]
  unfold I8 at h1 h2
  have w1 : IntKind.i64.wrap r0 = r0 := wrap_i64_id (by omega) (by omega)
  have w2 : IntKind.i64.wrap s0 = s0 := wrap_i64_id (by omega) (by omega)
  have x1 : IntKind.i64.wrap a = a := wrap_i64_id (by omega) (by omega)
  have x2 : IntKind.i64.wrap (-a) = -a := wrap_i64_id (by omega) (by omega)
  have a35 := fun x y h => k35 x y h
  have a61 := k61 1 4 p.length (p := p) (h := [shB r0 s0 r1 s1 r2 s2 n o g, zB p, .cells (rtC []) 2 true true, .cells [iv a, iv (1 + b)] 1 true true, .cells [iv (-a), iv (1 + b)] 1 true true]) (-a) (1 + b) rfl rfl (by decide) PoC_zm (by omega) (BdM_ok hB hM (by omega) (by omega))
  have ar := fun (hp : List Blk) (b c l n : Nat) (cs new : List Value) (rd : List Nat) (h1 : 0 < n) (h2 : cs.length = l * 2) (h3 : l + n ≤ 100) (h4 : new.all cellV = true) => app_r (h := hp) (b := b) (c := c) (rd := rd) h1 h2 h3 h4
  clear hB
  simp only [zB, rtC, insR, List.flatMap_cons, List.flatMap_nil, List.cons_append, List.nil_append, List.append_nil] at a61 ⊢
  try simp only [List.flatMap_cons, List.flatMap_nil, List.cons_append, List.nil_append, List.append_nil]
  generalize zm (mulP p (-a) (1 + b)) = L1 at *
  generalize zm p = L2 at *
  generalize p.length = pl at *
  generalize hX : lpB Try.prog LL ⟨31, 129, 0, none⟩ n31_24 n31_25 ⟨[(1, pp 0), (2, sl 1 0 (pl + 1) (pl + 1)), (3, sl 2 0 1 1), (5, iv cnt), (6, iv 1)], _, []⟩ = X
  rw [lpB_eq]
  simp (maxSteps := 1000000) (disch := first | omega | decide | assumption | simp [scal]) [o_indexAddrS es_22, ze_22, o_buildSlice es_22 ze_22 (by decide) ba_22_1, o_fieldAddr fa_54_1 (by decide), loadA_eq ia_5, o_convI cv_5_3, o_fieldAddr fa_54_2 (by decide), loadA_eq ia_4, o_buildSlice es_22 ze_22 (by decide) ba_22_3, o_fieldAddr fa_54_3 (by decide), loadA_eq ia_50, o_fieldAddr fa_54_0 (by decide), o_indexAddrA ea_52, o_indexAddrA ea_51, o_convI cv_50_3, za_24, sz_24, o_fieldAddr fa_24_0 (by decide), loadA_eq ia_3, o_fieldAddr fa_24_1 (by decide), o_buildSlice es_22 ze_22 (by decide) ba_22_2, lenA_sl lk_55, o_indexAddrS es_55, ze_55, o_buildSlice es_55 ze_55 (by decide) ba_55_0, o_sliceS sl_55, ap_55, builtin_append ni_55, loadA_eq ia_24, o_buildSlice es_55 ze_55 (by decide) ba_55_1, lenA_sl lk_22, sz_3, want_some q31_44g4, want_some q31_75g1, want_some q31_75g8, w1, w2, ha, i1, x1, x2, a35, hc, a61, app_z, app_r, append_some ap_55, srcCells]
  rw [lpB_eq]
  simp (maxSteps := 1000000) (disch := first | omega | decide | assumption | simp [scal]) [o_indexAddrS es_22, ze_22, o_buildSlice es_22 ze_22 (by decide) ba_22_1, o_fieldAddr fa_54_1 (by decide), loadA_eq ia_5, o_convI cv_5_3, o_fieldAddr fa_54_2 (by decide), loadA_eq ia_4, o_buildSlice es_22 ze_22 (by decide) ba_22_3, o_fieldAddr fa_54_3 (by decide), loadA_eq ia_50, o_fieldAddr fa_54_0 (by decide), o_indexAddrA ea_52, o_indexAddrA ea_51, o_convI cv_50_3, za_24, sz_24, o_fieldAddr fa_24_0 (by decide), loadA_eq ia_3, o_fieldAddr fa_24_1 (by decide), o_buildSlice es_22 ze_22 (by decide) ba_22_2, lenA_sl lk_55, o_indexAddrS es_55, ze_55, o_buildSlice es_55 ze_55 (by decide) ba_55_0, o_sliceS sl_55, ap_55, builtin_append ni_55, loadA_eq ia_24, o_buildSlice es_55 ze_55 (by decide) ba_55_1, lenA_sl lk_22, sz_3, want_some q31_44g4, want_some q31_75g1, want_some q31_75g8, app_z, app_r, append_some ap_55, srcCells, hX]
end
section
variable (r0 s0 r1 s1 r2 s2 : Int) (n : Nat) (o : Bool) (g : Int)
theorem rd1 {M : Int} (p : List Int) (h60 : p.length ≤ 40) (hB : BdM M p) (hM : 0 ≤ M ∧ M ≤ 100000) (cnt : Int) (hc : 1 < cnt) (h1 : I8 r1) (h2 : I8 s1) (u0 v0 : Int) (hr0 : okRt (u0, v0)) :
    lpB Try.prog LL ⟨31, 129, 0, none⟩ n31_24 n31_25 ⟨[(1, pp 0), (2, sl 1 0 p.length p.length), (3, sl 2 0 1 1), (5, iv cnt), (6, iv 1)], [shB r0 s0 r1 s1 r2 s2 n o g, zB p, .cells (rtC [(u0, v0)]) 2 true true], []⟩ =
    lpB Try.prog LL ⟨31, 129, 0, none⟩ n31_24 n31_25 ⟨[(1, pp 0), (2, sl 1 0 (p.length + 1) (p.length + 1)), (3, sl 2 0 2 2), (5, iv cnt), (6, iv 2)], [shB r0 s0 r1 s1 r2 s2 n o g, zB (mulP p (-(r1.tmod 4)) (1 + s1 % 2)), .cells (rtC (insR [(u0, v0)] (r1.tmod 4, 1 + s1 % 2))) 2 true true], []⟩ := by
  have m1 := tmod_bd (a := r1) 4 (by decide)
  obtain ⟨a, ha⟩ : ∃ a, r1.tmod 4 = a := ⟨_, rfl⟩
  obtain ⟨b, hb⟩ : ∃ b, s1 % 2 = b := ⟨_, rfl⟩
  have b1 : 0 ≤ b ∧ b ≤ 1 := by omega
  have i1 := fun t c => @bin_andi1 Try.prog t c s1
  rw [ha] at m1
  rw [hb] at i1
  have hr : okRt (a, 1 + b) := by unfold okRt; simp only []; omega
  rw [ha, hb]
  unfold I8 at h1 h2
  have w1 : IntKind.i64.wrap r1 = r1 := wrap_i64_id (by omega) (by omega)
  have w2 : IntKind.i64.wrap s1 = s1 := wrap_i64_id (by omega) (by omega)
  have x1 : IntKind.i64.wrap a = a := wrap_i64_id (by omega) (by omega)
  have x2 : IntKind.i64.wrap (-a) = -a := wrap_i64_id (by omega) (by omega)
  have a35 := fun x y h => k35 x y h
  have a61 := k61 1 4 p.length (p := p) (h := [shB r0 s0 r1 s1 r2 s2 n o g, zB p, .cells (rtC [(u0, v0)]) 2 true true, .cells [iv a, iv (1 + b)] 1 true true, .cells [iv (-a), iv (1 + b)] 1 true true]) (-a) (1 + b) rfl rfl (by decide) PoC_zm (by omega) (BdM_ok hB hM (by omega) (by omega))
  have y0 := rt_mul hr0 hr
  have z0 := rt_mul hr hr0
  simp only [] at y0 z0
  have ar := fun (hp : List Blk) (b c l n : Nat) (cs new : List Value) (rd : List Nat) (h1 : 0 < n) (h2 : cs.length = l * 2) (h3 : l + n ≤ 100) (h4 : new.all cellV = true) => app_r (h := hp) (b := b) (c := c) (rd := rd) h1 h2 h3 h4
  clear hB
  simp only [zB, rtC, insR, List.flatMap_cons, List.flatMap_nil, List.cons_append, List.nil_append, List.append_nil] at a61 ⊢
  by_cases q0 : u0 * (1 + b) < a * v0
  · simp only [q0, if_true]
    try simp only [List.flatMap_cons, List.flatMap_nil, List.cons_append, List.nil_append, List.append_nil]
    generalize zm (mulP p (-a) (1 + b)) = L1 at *
    generalize zm p = L2 at *
    generalize p.length = pl at *
    generalize hX : lpB Try.prog LL ⟨31, 129, 0, none⟩ n31_24 n31_25 ⟨[(1, pp 0), (2, sl 1 0 (pl + 1) (pl + 1)), (3, sl 2 0 2 2), (5, iv cnt), (6, iv 2)], _, []⟩ = X
    rw [lpB_eq]
    simp (maxSteps := 1000000) (disch := first | omega | decide | assumption | simp [scal]) [o_indexAddrS es_22, ze_22, o_buildSlice es_22 ze_22 (by decide) ba_22_1, o_fieldAddr fa_54_1 (by decide), loadA_eq ia_5, o_convI cv_5_3, o_fieldAddr fa_54_2 (by decide), loadA_eq ia_4, o_buildSlice es_22 ze_22 (by decide) ba_22_3, o_fieldAddr fa_54_3 (by decide), loadA_eq ia_50, o_fieldAddr fa_54_0 (by decide), o_indexAddrA ea_52, o_indexAddrA ea_51, o_convI cv_50_3, za_24, sz_24, o_fieldAddr fa_24_0 (by decide), loadA_eq ia_3, o_fieldAddr fa_24_1 (by decide), o_buildSlice es_22 ze_22 (by decide) ba_22_2, lenA_sl lk_55, o_indexAddrS es_55, ze_55, o_buildSlice es_55 ze_55 (by decide) ba_55_0, o_sliceS sl_55, ap_55, builtin_append ni_55, loadA_eq ia_24, o_buildSlice es_55 ze_55 (by decide) ba_55_1, lenA_sl lk_22, sz_3, want_some q31_44g4, want_some q31_75g1, want_some q31_75g8, w1, w2, ha, i1, x1, x2, a35, hc, a61, app_z, app_r, append_some ap_55, srcCells, y0, z0, q0]
    rw [lpB_eq]
    simp (maxSteps := 1000000) (disch := first | omega | decide | assumption | simp [scal]) [o_indexAddrS es_22, ze_22, o_buildSlice es_22 ze_22 (by decide) ba_22_1, o_fieldAddr fa_54_1 (by decide), loadA_eq ia_5, o_convI cv_5_3, o_fieldAddr fa_54_2 (by decide), loadA_eq ia_4, o_buildSlice es_22 ze_22 (by decide) ba_22_3, o_fieldAddr fa_54_3 (by decide), loadA_eq ia_50, o_fieldAddr fa_54_0 (by decide), o_indexAddrA ea_52, o_indexAddrA ea_51, o_convI cv_50_3, za_24, sz_24, o_fieldAddr fa_24_0 (by decide), loadA_eq ia_3, o_fieldAddr fa_24_1 (by decide), o_buildSlice es_22 ze_22 (by decide) ba_22_2, lenA_sl lk_55, o_indexAddrS es_55, ze_55, o_buildSlice es_55 ze_55 (by decide) ba_55_0, o_sliceS sl_55, ap_55, builtin_append ni_55, loadA_eq ia_24, o_buildSlice es_55 ze_55 (by decide) ba_55_1, lenA_sl lk_22, sz_3, want_some q31_44g4, want_some q31_75g1, want_some q31_75g8, app_z, app_r, append_some ap_55, srcCells, hX, y0, z0, q0]
    rw [lpB_eq]
    simp (maxSteps := 1000000) (disch := first | omega | decide | assumption | simp [scal]) [o_indexAddrS es_22, ze_22, o_buildSlice es_22 ze_22 (by decide) ba_22_1, o_fieldAddr fa_54_1 (by decide), loadA_eq ia_5, o_convI cv_5_3, o_fieldAddr fa_54_2 (by decide), loadA_eq ia_4, o_buildSlice es_22 ze_22 (by decide) ba_22_3, o_fieldAddr fa_54_3 (by decide), loadA_eq ia_50, o_fieldAddr fa_54_0 (by decide), o_indexAddrA ea_52, o_indexAddrA ea_51, o_convI cv_50_3, za_24, sz_24, o_fieldAddr fa_24_0 (by decide), loadA_eq ia_3, o_fieldAddr fa_24_1 (by decide), o_buildSlice es_22 ze_22 (by decide) ba_22_2, lenA_sl lk_55, o_indexAddrS es_55, ze_55, o_buildSlice es_55 ze_55 (by decide) ba_55_0, o_sliceS sl_55, ap_55, builtin_append ni_55, loadA_eq ia_24, o_buildSlice es_55 ze_55 (by decide) ba_55_1, lenA_sl lk_22, sz_3, want_some q31_44g4, want_some q31_75g1, want_some q31_75g8, app_z, app_r, append_some ap_55, srcCells, hX, y0, z0, q0]
  · simp only [q0, if_false]
    try simp only [List.flatMap_cons, List.flatMap_nil, List.cons_append, List.nil_append, List.append_nil]
    generalize zm (mulP p (-a) (1 + b)) = L1 at *
    generalize zm p = L2 at *
    generalize p.length = pl at *
    generalize hX : lpB Try.prog LL ⟨31, 129, 0, none⟩ n31_24 n31_25 ⟨[(1, pp 0), (2, sl 1 0 (pl + 1) (pl + 1)), (3, sl 2 0 2 2), (5, iv cnt), (6, iv 2)], _, []⟩ = X
    rw [lpB_eq]
    simp (maxSteps := 1000000) (disch := first | omega | decide | assumption | simp [scal]) [o_indexAddrS es_22, ze_22, o_buildSlice es_22 ze_22 (by decide) ba_22_1, o_fieldAddr fa_54_1 (by decide), loadA_eq ia_5, o_convI cv_5_3, o_fieldAddr fa_54_2 (by decide), loadA_eq ia_4, o_buildSlice es_22 ze_22 (by decide) ba_22_3, o_fieldAddr fa_54_3 (by decide), loadA_eq ia_50, o_fieldAddr fa_54_0 (by decide), o_indexAddrA ea_52, o_indexAddrA ea_51, o_convI cv_50_3, za_24, sz_24, o_fieldAddr fa_24_0 (by decide), loadA_eq ia_3, o_fieldAddr fa_24_1 (by decide), o_buildSlice es_22 ze_22 (by decide) ba_22_2, lenA_sl lk_55, o_indexAddrS es_55, ze_55, o_buildSlice es_55 ze_55 (by decide) ba_55_0, o_sliceS sl_55, ap_55, builtin_append ni_55, loadA_eq ia_24, o_buildSlice es_55 ze_55 (by decide) ba_55_1, lenA_sl lk_22, sz_3, want_some q31_44g4, want_some q31_75g1, want_some q31_75g8, w1, w2, ha, i1, x1, x2, a35, hc, a61, app_z, app_r, append_some ap_55, srcCells, y0, z0, q0]
    rw [lpB_eq]
    simp (maxSteps := 1000000) (disch := first | omega | decide | assumption | simp [scal]) [o_indexAddrS es_22, ze_22, o_buildSlice es_22 ze_22 (by decide) ba_22_1, o_fieldAddr fa_54_1 (by decide), loadA_eq ia_5, o_convI cv_5_3, o_fieldAddr fa_54_2 (by decide), loadA_eq ia_4, o_buildSlice es_22 ze_22 (by decide) ba_22_3, o_fieldAddr fa_54_3 (by decide), loadA_eq ia_50, o_fieldAddr fa_54_0 (by decide), o_indexAddrA ea_52, o_indexAddrA ea_51, o_convI cv_50_3, za_24, sz_24, o_fieldAddr fa_24_0 (by decide), loadA_eq ia_3, o_fieldAddr fa_24_1 (by decide), o_buildSlice es_22 ze_22 (by decide) ba_22_2, lenA_sl lk_55, o_indexAddrS es_55, ze_55, o_buildSlice es_55 ze_55 (by decide) ba_55_0, o_sliceS sl_55, ap_55, builtin_append ni_55, loadA_eq ia_24, o_buildSlice es_55 ze_55 (by decide) ba_55_1, lenA_sl lk_22, sz_3, want_some q31_44g4, want_some q31_75g1, want_some q31_75g8, app_z, app_r, append_some ap_55, srcCells, hX, y0, z0, q0]
end
section
variable (r0 s0 r1 s1 r2 s2 : Int) (n : Nat) (o : Bool) (g : Int)
theorem rd2 {M : Int} (p : List Int) (h60 : p.length ≤ 40) (hB : BdM M p) (hM : 0 ≤ M ∧ M ≤ 100000) (cnt : Int) (hc : 2 < cnt) (h1 : I8 r2) (h2 : I8 s2) (u0 v0 u1 v1 : Int) (hr0 : okRt (u0, v0)) (hr1 : okRt (u1, v1)) :
    lpB Try.prog LL ⟨31, 129, 0, none⟩ n31_24 n31_25 ⟨[(1, pp 0), (2, sl 1 0 p.length p.length), (3, sl 2 0 2 2), (5, iv cnt), (6, iv 2)], [shB r0 s0 r1 s1 r2 s2 n o g, zB p, .cells (rtC [(u0, v0), (u1, v1)]) 2 true true], []⟩ =
    lpB Try.prog LL ⟨31, 129, 0, none⟩ n31_24 n31_25 ⟨[(1, pp 0), (2, sl 1 0 (p.length + 1) (p.length + 1)), (3, sl 2 0 3 3), (5, iv cnt), (6, iv 3)], [shB r0 s0 r1 s1 r2 s2 n o g, zB (mulP p (-(r2.tmod 4)) (1 + s2 % 2)), .cells (rtC (insR [(u0, v0), (u1, v1)] (r2.tmod 4, 1 + s2 % 2))) 2 true true], []⟩ := by
  have m1 := tmod_bd (a := r2) 4 (by decide)
  obtain ⟨a, ha⟩ : ∃ a, r2.tmod 4 = a := ⟨_, rfl⟩
  obtain ⟨b, hb⟩ : ∃ b, s2 % 2 = b := ⟨_, rfl⟩
  have b1 : 0 ≤ b ∧ b ≤ 1 := by omega
  have i1 := fun t c => @bin_andi1 Try.prog t c s2
  rw [ha] at m1
  rw [hb] at i1
  have hr : okRt (a, 1 + b) := by unfold okRt; simp only []; omega
  rw [ha, hb]
  unfold I8 at h1 h2
  have w1 : IntKind.i64.wrap r2 = r2 := wrap_i64_id (by omega) (by omega)
  have w2 : IntKind.i64.wrap s2 = s2 := wrap_i64_id (by omega) (by omega)
  have x1 : IntKind.i64.wrap a = a := wrap_i64_id (by omega) (by omega)
  have x2 : IntKind.i64.wrap (-a) = -a := wrap_i64_id (by omega) (by omega)
  have a35 := fun x y h => k35 x y h
  have a61 := k61 1 4 p.length (p := p) (h := [shB r0 s0 r1 s1 r2 s2 n o g, zB p, .cells (rtC [(u0, v0), (u1, v1)]) 2 true true, .cells [iv a, iv (1 + b)] 1 true true, .cells [iv (-a), iv (1 + b)] 1 true true]) (-a) (1 + b) rfl rfl (by decide) PoC_zm (by omega) (BdM_ok hB hM (by omega) (by omega))
  have y0 := rt_mul hr0 hr
  have z0 := rt_mul hr hr0
  simp only [] at y0 z0
  have y1 := rt_mul hr1 hr
  have z1 := rt_mul hr hr1
  simp only [] at y1 z1
  have ar := fun (hp : List Blk) (b c l n : Nat) (cs new : List Value) (rd : List Nat) (h1 : 0 < n) (h2 : cs.length = l * 2) (h3 : l + n ≤ 100) (h4 : new.all cellV = true) => app_r (h := hp) (b := b) (c := c) (rd := rd) h1 h2 h3 h4
  clear hB
  simp only [zB, rtC, insR, List.flatMap_cons, List.flatMap_nil, List.cons_append, List.nil_append, List.append_nil] at a61 ⊢
  by_cases q0 : u0 * (1 + b) < a * v0
  · simp only [q0, if_true]
    by_cases q1 : u1 * (1 + b) < a * v1
    · simp only [q1, if_true]
      try simp only [List.flatMap_cons, List.flatMap_nil, List.cons_append, List.nil_append, List.append_nil]
      generalize zm (mulP p (-a) (1 + b)) = L1 at *
      generalize zm p = L2 at *
      generalize p.length = pl at *
      generalize hX : lpB Try.prog LL ⟨31, 129, 0, none⟩ n31_24 n31_25 ⟨[(1, pp 0), (2, sl 1 0 (pl + 1) (pl + 1)), (3, sl 2 0 3 3), (5, iv cnt), (6, iv 3)], _, []⟩ = X
      rw [lpB_eq]
      simp (maxSteps := 1000000) (disch := first | omega | decide | assumption | simp [scal]) [o_indexAddrS es_22, ze_22, o_buildSlice es_22 ze_22 (by decide) ba_22_1, o_fieldAddr fa_54_1 (by decide), loadA_eq ia_5, o_convI cv_5_3, o_fieldAddr fa_54_2 (by decide), loadA_eq ia_4, o_buildSlice es_22 ze_22 (by decide) ba_22_3, o_fieldAddr fa_54_3 (by decide), loadA_eq ia_50, o_fieldAddr fa_54_0 (by decide), o_indexAddrA ea_52, o_indexAddrA ea_51, o_convI cv_50_3, za_24, sz_24, o_fieldAddr fa_24_0 (by decide), loadA_eq ia_3, o_fieldAddr fa_24_1 (by decide), o_buildSlice es_22 ze_22 (by decide) ba_22_2, lenA_sl lk_55, o_indexAddrS es_55, ze_55, o_buildSlice es_55 ze_55 (by decide) ba_55_0, o_sliceS sl_55, ap_55, builtin_append ni_55, loadA_eq ia_24, o_buildSlice es_55 ze_55 (by decide) ba_55_1, lenA_sl lk_22, sz_3, want_some q31_44g4, want_some q31_75g1, want_some q31_75g8, w1, w2, ha, i1, x1, x2, a35, hc, a61, app_z, app_r, append_some ap_55, srcCells, y0, z0, q0, y1, z1, q1]
      rw [lpB_eq]
      simp (maxSteps := 1000000) (disch := first | omega | decide | assumption | simp [scal]) [o_indexAddrS es_22, ze_22, o_buildSlice es_22 ze_22 (by decide) ba_22_1, o_fieldAddr fa_54_1 (by decide), loadA_eq ia_5, o_convI cv_5_3, o_fieldAddr fa_54_2 (by decide), loadA_eq ia_4, o_buildSlice es_22 ze_22 (by decide) ba_22_3, o_fieldAddr fa_54_3 (by decide), loadA_eq ia_50, o_fieldAddr fa_54_0 (by decide), o_indexAddrA ea_52, o_indexAddrA ea_51, o_convI cv_50_3, za_24, sz_24, o_fieldAddr fa_24_0 (by decide), loadA_eq ia_3, o_fieldAddr fa_24_1 (by decide), o_buildSlice es_22 ze_22 (by decide) ba_22_2, lenA_sl lk_55, o_indexAddrS es_55, ze_55, o_buildSlice es_55 ze_55 (by decide) ba_55_0, o_sliceS sl_55, ap_55, builtin_append ni_55, loadA_eq ia_24, o_buildSlice es_55 ze_55 (by decide) ba_55_1, lenA_sl lk_22, sz_3, want_some q31_44g4, want_some q31_75g1, want_some q31_75g8, app_z, app_r, append_some ap_55, srcCells, hX, y0, z0, q0, y1, z1, q1]
      rw [lpB_eq]
      simp (maxSteps := 1000000) (disch := first | omega | decide | assumption | simp [scal]) [o_indexAddrS es_22, ze_22, o_buildSlice es_22 ze_22 (by decide) ba_22_1, o_fieldAddr fa_54_1 (by decide), loadA_eq ia_5, o_convI cv_5_3, o_fieldAddr fa_54_2 (by decide), loadA_eq ia_4, o_buildSlice es_22 ze_22 (by decide) ba_22_3, o_fieldAddr fa_54_3 (by decide), loadA_eq ia_50, o_fieldAddr fa_54_0 (by decide), o_indexAddrA ea_52, o_indexAddrA ea_51, o_convI cv_50_3, za_24, sz_24, o_fieldAddr fa_24_0 (by decide), loadA_eq ia_3, o_fieldAddr fa_24_1 (by decide), o_buildSlice es_22 ze_22 (by decide) ba_22_2, lenA_sl lk_55, o_indexAddrS es_55, ze_55, o_buildSlice es_55 ze_55 (by decide) ba_55_0, o_sliceS sl_55, ap_55, builtin_append ni_55, loadA_eq ia_24, o_buildSlice es_55 ze_55 (by decide) ba_55_1, lenA_sl lk_22, sz_3, want_some q31_44g4, want_some q31_75g1, want_some q31_75g8, app_z, app_r, append_some ap_55, srcCells, hX, y0, z0, q0, y1, z1, q1]
      rw [lpB_eq]
      simp (maxSteps := 1000000) (disch := first | omega | decide | assumption | simp [scal]) [o_indexAddrS es_22, ze_22, o_buildSlice es_22 ze_22 (by decide) ba_22_1, o_fieldAddr fa_54_1 (by decide), loadA_eq ia_5, o_convI cv_5_3, o_fieldAddr fa_54_2 (by decide), loadA_eq ia_4, o_buildSlice es_22 ze_22 (by decide) ba_22_3, o_fieldAddr fa_54_3 (by decide), loadA_eq ia_50, o_fieldAddr fa_54_0 (by decide), o_indexAddrA ea_52, o_indexAddrA ea_51, o_convI cv_50_3, za_24, sz_24, o_fieldAddr fa_24_0 (by decide), loadA_eq ia_3, o_fieldAddr fa_24_1 (by decide), o_buildSlice es_22 ze_22 (by decide) ba_22_2, lenA_sl lk_55, o_indexAddrS es_55, ze_55, o_buildSlice es_55 ze_55 (by decide) ba_55_0, o_sliceS sl_55, ap_55, builtin_append ni_55, loadA_eq ia_24, o_buildSlice es_55 ze_55 (by decide) ba_55_1, lenA_sl lk_22, sz_3, want_some q31_44g4, want_some q31_75g1, want_some q31_75g8, app_z, app_r, append_some ap_55, srcCells, hX, y0, z0, q0, y1, z1, q1]
    · simp only [q1, if_false]
      try simp only [List.flatMap_cons, List.flatMap_nil, List.cons_append, List.nil_append, List.append_nil]
      generalize zm (mulP p (-a) (1 + b)) = L1 at *
      generalize zm p = L2 at *
      generalize p.length = pl at *
      generalize hX : lpB Try.prog LL ⟨31, 129, 0, none⟩ n31_24 n31_25 ⟨[(1, pp 0), (2, sl 1 0 (pl + 1) (pl + 1)), (3, sl 2 0 3 3), (5, iv cnt), (6, iv 3)], _, []⟩ = X
      rw [lpB_eq]
      simp (maxSteps := 1000000) (disch := first | omega | decide | assumption | simp [scal]) [o_indexAddrS es_22, ze_22, o_buildSlice es_22 ze_22 (by decide) ba_22_1, o_fieldAddr fa_54_1 (by decide), loadA_eq ia_5, o_convI cv_5_3, o_fieldAddr fa_54_2 (by decide), loadA_eq ia_4, o_buildSlice es_22 ze_22 (by decide) ba_22_3, o_fieldAddr fa_54_3 (by decide), loadA_eq ia_50, o_fieldAddr fa_54_0 (by decide), o_indexAddrA ea_52, o_indexAddrA ea_51, o_convI cv_50_3, za_24, sz_24, o_fieldAddr fa_24_0 (by decide), loadA_eq ia_3, o_fieldAddr fa_24_1 (by decide), o_buildSlice es_22 ze_22 (by decide) ba_22_2, lenA_sl lk_55, o_indexAddrS es_55, ze_55, o_buildSlice es_55 ze_55 (by decide) ba_55_0, o_sliceS sl_55, ap_55, builtin_append ni_55, loadA_eq ia_24, o_buildSlice es_55 ze_55 (by decide) ba_55_1, lenA_sl lk_22, sz_3, want_some q31_44g4, want_some q31_75g1, want_some q31_75g8, w1, w2, ha, i1, x1, x2, a35, hc, a61, app_z, app_r, append_some ap_55, srcCells, y0, z0, q0, y1, z1, q1]
      rw [lpB_eq]
      simp (maxSteps := 1000000) (disch := first | omega | decide | assumption | simp [scal]) [o_indexAddrS es_22, ze_22, o_buildSlice es_22 ze_22 (by decide) ba_22_1, o_fieldAddr fa_54_1 (by decide), loadA_eq ia_5, o_convI cv_5_3, o_fieldAddr fa_54_2 (by decide), loadA_eq ia_4, o_buildSlice es_22 ze_22 (by decide) ba_22_3, o_fieldAddr fa_54_3 (by decide), loadA_eq ia_50, o_fieldAddr fa_54_0 (by decide), o_indexAddrA ea_52, o_indexAddrA ea_51, o_convI cv_50_3, za_24, sz_24, o_fieldAddr fa_24_0 (by decide), loadA_eq ia_3, o_fieldAddr fa_24_1 (by decide), o_buildSlice es_22 ze_22 (by decide) ba_22_2, lenA_sl lk_55, o_indexAddrS es_55, ze_55, o_buildSlice es_55 ze_55 (by decide) ba_55_0, o_sliceS sl_55, ap_55, builtin_append ni_55, loadA_eq ia_24, o_buildSlice es_55 ze_55 (by decide) ba_55_1, lenA_sl lk_22, sz_3, want_some q31_44g4, want_some q31_75g1, want_some q31_75g8, app_z, app_r, append_some ap_55, srcCells, hX, y0, z0, q0, y1, z1, q1]
      rw [lpB_eq]
      simp (maxSteps := 1000000) (disch := first | omega | decide | assumption | simp [scal]) [o_indexAddrS es_22, ze_22, o_buildSlice es_22 ze_22 (by decide) ba_22_1, o_fieldAddr fa_54_1 (by decide), loadA_eq ia_5, o_convI cv_5_3, o_fieldAddr fa_54_2 (by decide), loadA_eq ia_4, o_buildSlice es_22 ze_22 (by decide) ba_22_3, o_fieldAddr fa_54_3 (by decide), loadA_eq ia_50, o_fieldAddr fa_54_0 (by decide), o_indexAddrA ea_52, o_indexAddrA ea_51, o_convI cv_50_3, za_24, sz_24, o_fieldAddr fa_24_0 (by decide), loadA_eq ia_3, o_fieldAddr fa_24_1 (by decide), o_buildSlice es_22 ze_22 (by decide) ba_22_2, lenA_sl lk_55, o_indexAddrS es_55, ze_55, o_buildSlice es_55 ze_55 (by decide) ba_55_0, o_sliceS sl_55, ap_55, builtin_append ni_55, loadA_eq ia_24, o_buildSlice es_55 ze_55 (by decide) ba_55_1, lenA_sl lk_22, sz_3, want_some q31_44g4, want_some q31_75g1, want_some q31_75g8, app_z, app_r, append_some ap_55, srcCells, hX, y0, z0, q0, y1, z1, q1]
  · simp only [q0, if_false]
    try simp only [List.flatMap_cons, List.flatMap_nil, List.cons_append, List.nil_append, List.append_nil]
    generalize zm (mulP p (-a) (1 + b)) = L1 at *
    generalize zm p = L2 at *
    generalize p.length = pl at *
    generalize hX : lpB Try.prog LL ⟨31, 129, 0, none⟩ n31_24 n31_25 ⟨[(1, pp 0), (2, sl 1 0 (pl + 1) (pl + 1)), (3, sl 2 0 3 3), (5, iv cnt), (6, iv 3)], _, []⟩ = X
    rw [lpB_eq]
    simp (maxSteps := 1000000) (disch := first | omega | decide | assumption | simp [scal]) [o_indexAddrS es_22, ze_22, o_buildSlice es_22 ze_22 (by decide) ba_22_1, o_fieldAddr fa_54_1 (by decide), loadA_eq ia_5, o_convI cv_5_3, o_fieldAddr fa_54_2 (by decide), loadA_eq ia_4, o_buildSlice es_22 ze_22 (by decide) ba_22_3, o_fieldAddr fa_54_3 (by decide), loadA_eq ia_50, o_fieldAddr fa_54_0 (by decide), o_indexAddrA ea_52, o_indexAddrA ea_51, o_convI cv_50_3, za_24, sz_24, o_fieldAddr fa_24_0 (by decide), loadA_eq ia_3, o_fieldAddr fa_24_1 (by decide), o_buildSlice es_22 ze_22 (by decide) ba_22_2, lenA_sl lk_55, o_indexAddrS es_55, ze_55, o_buildSlice es_55 ze_55 (by decide) ba_55_0, o_sliceS sl_55, ap_55, builtin_append ni_55, loadA_eq ia_24, o_buildSlice es_55 ze_55 (by decide) ba_55_1, lenA_sl lk_22, sz_3, want_some q31_44g4, want_some q31_75g1, want_some q31_75g8, w1, w2, ha, i1, x1, x2, a35, hc, a61, app_z, app_r, append_some ap_55, srcCells, y0, z0, q0]
    rw [lpB_eq]
    simp (maxSteps := 1000000) (disch := first | omega | decide | assumption | simp [scal]) [o_indexAddrS es_22, ze_22, o_buildSlice es_22 ze_22 (by decide) ba_22_1, o_fieldAddr fa_54_1 (by decide), loadA_eq ia_5, o_convI cv_5_3, o_fieldAddr fa_54_2 (by decide), loadA_eq ia_4, o_buildSlice es_22 ze_22 (by decide) ba_22_3, o_fieldAddr fa_54_3 (by decide), loadA_eq ia_50, o_fieldAddr fa_54_0 (by decide), o_indexAddrA ea_52, o_indexAddrA ea_51, o_convI cv_50_3, za_24, sz_24, o_fieldAddr fa_24_0 (by decide), loadA_eq ia_3, o_fieldAddr fa_24_1 (by decide), o_buildSlice es_22 ze_22 (by decide) ba_22_2, lenA_sl lk_55, o_indexAddrS es_55, ze_55, o_buildSlice es_55 ze_55 (by decide) ba_55_0, o_sliceS sl_55, ap_55, builtin_append ni_55, loadA_eq ia_24, o_buildSlice es_55 ze_55 (by decide) ba_55_1, lenA_sl lk_22, sz_3, want_some q31_44g4, want_some q31_75g1, want_some q31_75g8, app_z, app_r, append_some ap_55, srcCells, hX, y0, z0, q0]
end
end Go.Proofs.Ytkmompbfcgjgmaa.nt
namespace Go.Proofs.Ytkmompbfcgjgmaa.nt
open Go.GE
set_option linter.unusedVariables false
set_option linter.unusedSimpArgs false
set_option linter.unusedSectionVars false
set_option maxRecDepth 100000
set_option maxHeartbeats 4000000
attribute [local simp] runOps_nil runOps_cons runOpsF_nil runOpsF_cons fstS_some fstF_some opStep_eq want_none oStep_true oStep_false fin_pure fin_read fin_alloc fin_write storeB wrN cellV addWr o_move o_assign o_pick o_alloc o_box o_load o_store o_nilCheck o_bin o_un o_extract o_callV o_callB o_callI callV_f callV_y callV_fc o_makeFunc partsA Instr.fill builtin_len builtin_max2 bin_add bin_sub bin_mul bin_quo bin_rem bin_lss bin_leq bin_gtr bin_geq bin_eql bin_neq un_neg un_not bin_shr bin_shl wrap_u64_id opd opds optAll putO nbeq nblt constOk isC ops sub cl cr co bodyOf thenS_normal thenS_ret thenS_exit thenS_goto afterN_normal afterN_ret afterN_exit afterN_goto condS_true condS_false blockS_normal blockS_ret blockS_exit blockS_goto headS normS normK_eq fixS_nil fixS_cons fix1 fixV emptyB keepO_nil keepO_cons roundC_normal roundC_exit roundC_ret roundC_goto sweep_eq sweepD rnm pickR pickW rootsB ptrT renT ptrFn renFn ptrB_flat ptrB_non renB_flat renB_non plainS_some drawS_some fpsOk disj unord range' dropTo enumT undef wrap_i64_id Value.cells mkCells ptrTo scal cellsAt rdN endS_ret resultsA Option.bind_some tupV finish reachN dep ptrL_eq ptrL renL_eq renL ptrV_bool ptrV_int ptrV_string ptrV_nilFunc ptrV_nilIface ptrV_nilPtr ptrV_ptr ptrV_nilSl ptrV_sl ptrV_iface ptrV_agg ptrV_tuple ptrV_func renV_bool renV_int renV_string renV_nilFunc renV_nilIface renV_nilPtr renV_ptr renV_nilSl renV_sl renV_iface renV_agg renV_tuple renV_func gotoS_goto gotoS_normal gotoS_exit gotoS_ret skip_seq sliceE bnd bndHi intOf optOpd keepT_nil keepT_cons keepC_t keepC_f lk_nil lk_cons lkC_t lkC_f has_nil has_cons hasC_t hasC_f rep_nil rep_cons repC_t repC_f put_eq putC_t putC_f mem_nil mem_cons memC_t memC_f idx_nil idx_cons idxC_t idxC_f reach_nil reachP_cons reachQ_t reachQ_f ptrB_dead renB_dead ins_eq
attribute [local simp] n31_1s n31_3s n31_5s n31_8s n31_11s n31_14s n31_16s n31_17s n31_15s n31_13s n31_18s n31_12s n31_10s n31_19s n31_9s n31_7s n31_22s n31_27s n31_29s n31_30s n31_28s n31_26s n31_34s n31_36s n31_38s n31_44s n31_46s n31_47s n31_45s n31_43s n31_49s n31_48s n31_42s n31_41s n31_41g n31_40s n31_50s n31_39s n31_37s n31_35s n31_33s n31_32s n31_51s n31_31s n31_25s n31_24s n31_24g n31_23s n31_21s n31_53s n31_56s n31_60s n31_63s n31_64s n31_62s n31_68s n31_71s n31_73s n31_74s n31_72s n31_70s n31_75s n31_69s n31_67s n31_66s n31_76s n31_65s n31_61s n31_59s n31_58s n31_58g n31_57s n31_55s n31_78s n31_79s n31_77s n31_54s n31_52s n31_20s n31_6s n31_4s n31_2s n31_0s Try.f31
def inC (x : Int) : Bool := decide (x ≤ 50) && decide (-50 ≤ x)
def okF (f : Nat → Int) (i : Nat) : Bool := (List.range i).all fun j => inC (f j)
theorem okF_succ {f : Nat → Int} {i : Nat} : okF f (i + 1) = (okF f i && inC (f i)) := by simp [okF, List.range_succ]
section
variable (r0 s0 r1 s1 r2 s2 : Int) (n : Nat) (o : Bool) (g : Int) (k : Nat) (R : List Value) (p : List Int) (h60 : p.length ≤ 40) (hB : BdM 100000 p)
include h60 hB
theorem l58n (hg : g < 0) (hg8 : I8 g) : ∀ (q i : Nat), i + q = p.length →
    lpB Try.prog LL ⟨31, 129, 0, none⟩ n31_58 n31_59 ⟨[(1, pp 0), (2, sl 1 0 p.length p.length), (3, sl 2 0 k k), (4, .bool (okF (fun i => -(p.getD i 0)) i)), (95, iv p.length), (96, iv i)], [shB r0 s0 r1 s1 r2 s2 n o g, .cells (mxL (fun i => -(p.getD i 0)) (fun i => p.getD i 0) p.length i) 1 true true, .cells R 2 true true], []⟩ =
      some (.exit 4, ⟨[(2, sl 0 0 p.length p.length), (3, sl 1 0 k k), (4, .bool (okF (fun i => -(p.getD i 0)) p.length))], [.cells (mxL (fun i => -(p.getD i 0)) (fun i => p.getD i 0) p.length p.length) 1 true true, .cells R 2 true true], []⟩) := by
  intro q
  induction q with
  | zero =>
    intro i hi
    obtain rfl : i = p.length := by omega
    generalize mxL _ _ _ _ = X
    generalize okF _ _ = Y
    rw [lpB_eq]
    simp (maxSteps := 1000000) (disch := first | omega | decide | assumption | simp [scal]) [o_indexAddrS es_22, ze_22, o_buildSlice es_22 ze_22 (by decide) ba_22_1, o_fieldAddr fa_54_1 (by decide), loadA_eq ia_5, o_convI cv_5_3, o_fieldAddr fa_54_2 (by decide), loadA_eq ia_4, o_buildSlice es_22 ze_22 (by decide) ba_22_3, o_fieldAddr fa_54_3 (by decide), loadA_eq ia_50, o_fieldAddr fa_54_0 (by decide), o_indexAddrA ea_52, o_indexAddrA ea_51, o_convI cv_50_3, za_24, sz_24, o_fieldAddr fa_24_0 (by decide), loadA_eq ia_3, o_fieldAddr fa_24_1 (by decide), o_buildSlice es_22 ze_22 (by decide) ba_22_2, lenA_sl lk_55, o_indexAddrS es_55, ze_55, o_buildSlice es_55 ze_55 (by decide) ba_55_0, o_sliceS sl_55, ap_55, builtin_append ni_55, loadA_eq ia_24, o_buildSlice es_55 ze_55 (by decide) ba_55_1, lenA_sl lk_22, sz_3, want_some q31_44g4, want_some q31_75g1, want_some q31_75g8]
  | succ q ih =>
    intro i hi
    have e0 : i < p.length := by omega
    have e1 : (i : Int) < p.length := by omega
    have this := ih (i + 1) (by omega)
    have hset := mxL_set (f := fun i => -(p.getD i 0)) (g := fun i => p.getD i 0) e0
    have hl := mxL_len (f := fun i => -(p.getD i 0)) (g := fun i => p.getD i 0) (n := p.length) (i := i)
    have hl2 := mxL_len (f := fun i => -(p.getD i 0)) (g := fun i => p.getD i 0) (n := p.length) (i := i + 1)
    have g1 := mxL_get (f := fun i => -(p.getD i 0)) (g := fun i => p.getD i 0) (n := p.length) (i := i) e0 (Nat.le_refl _)
    rw [← hset] at this hl2
    rw [okF_succ] at this
    have hb := hB i
    have w := (wrap_i64_id (n := -(p.getD i 0)) (by omega) (by omega))
    simp only [cast1] at this
    clear ih hset hB
    generalize mxL _ _ _ i = X at *
    generalize mxL _ _ _ _ = X2 at *
    generalize okF _ i = Y at *
    generalize okF _ _ = Y2 at *
    generalize p.getD i 0 = x at *
    have g2 : ∀ h, X[i]'h = iv x := fun h => by rw [List.getElem?_eq_getElem h] at g1; exact Option.some.inj g1
    have g3 : (X.set i (iv (-x)))[i]? = some (iv (-x)) := by rw [List.getElem?_set_self (by omega)]
    have g4 : ∀ h, (X.set i (iv (-x)))[i]'h = iv (-x) := fun h => by simp
    have hx : inC (-x) = (decide (-x ≤ 50) && decide (-50 ≤ -x)) := rfl
    cases Y
    · simp only [Bool.false_and] at this
      rw [lpB_eq]
      simp (maxSteps := 1000000) (disch := first | omega | decide | assumption | simp [scal]) [o_indexAddrS es_22, ze_22, o_buildSlice es_22 ze_22 (by decide) ba_22_1, o_fieldAddr fa_54_1 (by decide), loadA_eq ia_5, o_convI cv_5_3, o_fieldAddr fa_54_2 (by decide), loadA_eq ia_4, o_buildSlice es_22 ze_22 (by decide) ba_22_3, o_fieldAddr fa_54_3 (by decide), loadA_eq ia_50, o_fieldAddr fa_54_0 (by decide), o_indexAddrA ea_52, o_indexAddrA ea_51, o_convI cv_50_3, za_24, sz_24, o_fieldAddr fa_24_0 (by decide), loadA_eq ia_3, o_fieldAddr fa_24_1 (by decide), o_buildSlice es_22 ze_22 (by decide) ba_22_2, lenA_sl lk_55, o_indexAddrS es_55, ze_55, o_buildSlice es_55 ze_55 (by decide) ba_55_0, o_sliceS sl_55, ap_55, builtin_append ni_55, loadA_eq ia_24, o_buildSlice es_55 ze_55 (by decide) ba_55_1, lenA_sl lk_22, sz_3, want_some q31_44g4, want_some q31_75g1, want_some q31_75g8, e0, e1, hg, g1, g2, hl, hl2, w, this]
    · by_cases c1 : -x ≤ 50
      · by_cases c2 : -50 ≤ -x
        · rw [decide_eq_true c1, decide_eq_true c2] at hx
          rw [hx] at this
          simp only [Bool.true_and] at this
          have c2' : x ≤ 50 := by omega
          have c1' : -50 ≤ x := by omega
          rw [lpB_eq]
          simp (maxSteps := 1000000) (disch := first | omega | decide | assumption | simp [scal]) [o_indexAddrS es_22, ze_22, o_buildSlice es_22 ze_22 (by decide) ba_22_1, o_fieldAddr fa_54_1 (by decide), loadA_eq ia_5, o_convI cv_5_3, o_fieldAddr fa_54_2 (by decide), loadA_eq ia_4, o_buildSlice es_22 ze_22 (by decide) ba_22_3, o_fieldAddr fa_54_3 (by decide), loadA_eq ia_50, o_fieldAddr fa_54_0 (by decide), o_indexAddrA ea_52, o_indexAddrA ea_51, o_convI cv_50_3, za_24, sz_24, o_fieldAddr fa_24_0 (by decide), loadA_eq ia_3, o_fieldAddr fa_24_1 (by decide), o_buildSlice es_22 ze_22 (by decide) ba_22_2, lenA_sl lk_55, o_indexAddrS es_55, ze_55, o_buildSlice es_55 ze_55 (by decide) ba_55_0, o_sliceS sl_55, ap_55, builtin_append ni_55, loadA_eq ia_24, o_buildSlice es_55 ze_55 (by decide) ba_55_1, lenA_sl lk_22, sz_3, want_some q31_44g4, want_some q31_75g1, want_some q31_75g8, e0, e1, hg, g1, g2, g3, g4, hl, hl2, w, c1, c2, c1', c2', this]
        · rw [decide_eq_true c1, decide_eq_false c2] at hx
          rw [hx] at this
          simp only [Bool.true_and] at this
          have c2' : ¬ x ≤ 50 := by omega
          have c1' : -50 ≤ x := by omega
          rw [lpB_eq]
          simp (maxSteps := 1000000) (disch := first | omega | decide | assumption | simp [scal]) [o_indexAddrS es_22, ze_22, o_buildSlice es_22 ze_22 (by decide) ba_22_1, o_fieldAddr fa_54_1 (by decide), loadA_eq ia_5, o_convI cv_5_3, o_fieldAddr fa_54_2 (by decide), loadA_eq ia_4, o_buildSlice es_22 ze_22 (by decide) ba_22_3, o_fieldAddr fa_54_3 (by decide), loadA_eq ia_50, o_fieldAddr fa_54_0 (by decide), o_indexAddrA ea_52, o_indexAddrA ea_51, o_convI cv_50_3, za_24, sz_24, o_fieldAddr fa_24_0 (by decide), loadA_eq ia_3, o_fieldAddr fa_24_1 (by decide), o_buildSlice es_22 ze_22 (by decide) ba_22_2, lenA_sl lk_55, o_indexAddrS es_55, ze_55, o_buildSlice es_55 ze_55 (by decide) ba_55_0, o_sliceS sl_55, ap_55, builtin_append ni_55, loadA_eq ia_24, o_buildSlice es_55 ze_55 (by decide) ba_55_1, lenA_sl lk_22, sz_3, want_some q31_44g4, want_some q31_75g1, want_some q31_75g8, e0, e1, hg, g1, g2, g3, g4, hl, hl2, w, c1, c2, c1', c2', this]
      · rw [decide_eq_false c1] at hx
        rw [hx] at this
        simp only [Bool.true_and, Bool.false_and] at this
        have c1' : ¬ -50 ≤ x := by omega
        rw [lpB_eq]
        simp (maxSteps := 1000000) (disch := first | omega | decide | assumption | simp [scal]) [o_indexAddrS es_22, ze_22, o_buildSlice es_22 ze_22 (by decide) ba_22_1, o_fieldAddr fa_54_1 (by decide), loadA_eq ia_5, o_convI cv_5_3, o_fieldAddr fa_54_2 (by decide), loadA_eq ia_4, o_buildSlice es_22 ze_22 (by decide) ba_22_3, o_fieldAddr fa_54_3 (by decide), loadA_eq ia_50, o_fieldAddr fa_54_0 (by decide), o_indexAddrA ea_52, o_indexAddrA ea_51, o_convI cv_50_3, za_24, sz_24, o_fieldAddr fa_24_0 (by decide), loadA_eq ia_3, o_fieldAddr fa_24_1 (by decide), o_buildSlice es_22 ze_22 (by decide) ba_22_2, lenA_sl lk_55, o_indexAddrS es_55, ze_55, o_buildSlice es_55 ze_55 (by decide) ba_55_0, o_sliceS sl_55, ap_55, builtin_append ni_55, loadA_eq ia_24, o_buildSlice es_55 ze_55 (by decide) ba_55_1, lenA_sl lk_22, sz_3, want_some q31_44g4, want_some q31_75g1, want_some q31_75g8, e0, e1, hg, g1, g2, g3, g4, hl, hl2, w, c1, c1', this]
theorem l58p (hg : ¬ g < 0) (hg8 : I8 g) : ∀ (q i : Nat), i + q = p.length →
    lpB Try.prog LL ⟨31, 129, 0, none⟩ n31_58 n31_59 ⟨[(1, pp 0), (2, sl 1 0 p.length p.length), (3, sl 2 0 k k), (4, .bool (okF (fun i => p.getD i 0) i)), (95, iv p.length), (96, iv i)], [shB r0 s0 r1 s1 r2 s2 n o g, zB p, .cells R 2 true true], []⟩ =
      some (.exit 4, ⟨[(2, sl 0 0 p.length p.length), (3, sl 1 0 k k), (4, .bool (okF (fun i => p.getD i 0) p.length))], [zB p, .cells R 2 true true], []⟩) := by
  intro q
  induction q with
  | zero =>
    intro i hi
    obtain rfl : i = p.length := by omega
    simp only [zB]
    generalize zm p = X
    generalize okF _ _ = Y
    rw [lpB_eq]
    simp (maxSteps := 1000000) (disch := first | omega | decide | assumption | simp [scal]) [o_indexAddrS es_22, ze_22, o_buildSlice es_22 ze_22 (by decide) ba_22_1, o_fieldAddr fa_54_1 (by decide), loadA_eq ia_5, o_convI cv_5_3, o_fieldAddr fa_54_2 (by decide), loadA_eq ia_4, o_buildSlice es_22 ze_22 (by decide) ba_22_3, o_fieldAddr fa_54_3 (by decide), loadA_eq ia_50, o_fieldAddr fa_54_0 (by decide), o_indexAddrA ea_52, o_indexAddrA ea_51, o_convI cv_50_3, za_24, sz_24, o_fieldAddr fa_24_0 (by decide), loadA_eq ia_3, o_fieldAddr fa_24_1 (by decide), o_buildSlice es_22 ze_22 (by decide) ba_22_2, lenA_sl lk_55, o_indexAddrS es_55, ze_55, o_buildSlice es_55 ze_55 (by decide) ba_55_0, o_sliceS sl_55, ap_55, builtin_append ni_55, loadA_eq ia_24, o_buildSlice es_55 ze_55 (by decide) ba_55_1, lenA_sl lk_22, sz_3, want_some q31_44g4, want_some q31_75g1, want_some q31_75g8]
  | succ q ih =>
    intro i hi
    have e0 : i < p.length := by omega
    have e1 : (i : Int) < p.length := by omega
    have this := ih (i + 1) (by omega)
    have hl := zm_len (L := p)
    have g1 := PoC_zm (p := p) i e0
    rw [okF_succ] at this
    simp only [cast1] at this
    simp only [zB] at this ⊢
    clear ih hB
    generalize zm p = X at *
    generalize okF _ i = Y at *
    generalize okF _ _ = Y2 at *
    generalize p.getD i 0 = x at *
    have g2 : ∀ h, X[i]'h = iv x := fun h => by rw [List.getElem?_eq_getElem h] at g1; exact Option.some.inj g1
    have hx : inC x = (decide (x ≤ 50) && decide (-50 ≤ x)) := rfl
    cases Y
    · simp only [Bool.false_and] at this
      rw [lpB_eq]
      simp (maxSteps := 1000000) (disch := first | omega | decide | assumption | simp [scal]) [o_indexAddrS es_22, ze_22, o_buildSlice es_22 ze_22 (by decide) ba_22_1, o_fieldAddr fa_54_1 (by decide), loadA_eq ia_5, o_convI cv_5_3, o_fieldAddr fa_54_2 (by decide), loadA_eq ia_4, o_buildSlice es_22 ze_22 (by decide) ba_22_3, o_fieldAddr fa_54_3 (by decide), loadA_eq ia_50, o_fieldAddr fa_54_0 (by decide), o_indexAddrA ea_52, o_indexAddrA ea_51, o_convI cv_50_3, za_24, sz_24, o_fieldAddr fa_24_0 (by decide), loadA_eq ia_3, o_fieldAddr fa_24_1 (by decide), o_buildSlice es_22 ze_22 (by decide) ba_22_2, lenA_sl lk_55, o_indexAddrS es_55, ze_55, o_buildSlice es_55 ze_55 (by decide) ba_55_0, o_sliceS sl_55, ap_55, builtin_append ni_55, loadA_eq ia_24, o_buildSlice es_55 ze_55 (by decide) ba_55_1, lenA_sl lk_22, sz_3, want_some q31_44g4, want_some q31_75g1, want_some q31_75g8, e0, e1, hg, g1, g2, hl, this]
    · by_cases c1 : x ≤ 50
      · by_cases c2 : -50 ≤ x
        · rw [decide_eq_true c1, decide_eq_true c2] at hx
          rw [hx] at this
          simp only [Bool.true_and] at this
          rw [lpB_eq]
          simp (maxSteps := 1000000) (disch := first | omega | decide | assumption | simp [scal]) [o_indexAddrS es_22, ze_22, o_buildSlice es_22 ze_22 (by decide) ba_22_1, o_fieldAddr fa_54_1 (by decide), loadA_eq ia_5, o_convI cv_5_3, o_fieldAddr fa_54_2 (by decide), loadA_eq ia_4, o_buildSlice es_22 ze_22 (by decide) ba_22_3, o_fieldAddr fa_54_3 (by decide), loadA_eq ia_50, o_fieldAddr fa_54_0 (by decide), o_indexAddrA ea_52, o_indexAddrA ea_51, o_convI cv_50_3, za_24, sz_24, o_fieldAddr fa_24_0 (by decide), loadA_eq ia_3, o_fieldAddr fa_24_1 (by decide), o_buildSlice es_22 ze_22 (by decide) ba_22_2, lenA_sl lk_55, o_indexAddrS es_55, ze_55, o_buildSlice es_55 ze_55 (by decide) ba_55_0, o_sliceS sl_55, ap_55, builtin_append ni_55, loadA_eq ia_24, o_buildSlice es_55 ze_55 (by decide) ba_55_1, lenA_sl lk_22, sz_3, want_some q31_44g4, want_some q31_75g1, want_some q31_75g8, e0, e1, hg, g1, g2, hl, c1, c2, this]
        · rw [decide_eq_true c1, decide_eq_false c2] at hx
          rw [hx] at this
          simp only [Bool.true_and] at this
          rw [lpB_eq]
          simp (maxSteps := 1000000) (disch := first | omega | decide | assumption | simp [scal]) [o_indexAddrS es_22, ze_22, o_buildSlice es_22 ze_22 (by decide) ba_22_1, o_fieldAddr fa_54_1 (by decide), loadA_eq ia_5, o_convI cv_5_3, o_fieldAddr fa_54_2 (by decide), loadA_eq ia_4, o_buildSlice es_22 ze_22 (by decide) ba_22_3, o_fieldAddr fa_54_3 (by decide), loadA_eq ia_50, o_fieldAddr fa_54_0 (by decide), o_indexAddrA ea_52, o_indexAddrA ea_51, o_convI cv_50_3, za_24, sz_24, o_fieldAddr fa_24_0 (by decide), loadA_eq ia_3, o_fieldAddr fa_24_1 (by decide), o_buildSlice es_22 ze_22 (by decide) ba_22_2, lenA_sl lk_55, o_indexAddrS es_55, ze_55, o_buildSlice es_55 ze_55 (by decide) ba_55_0, o_sliceS sl_55, ap_55, builtin_append ni_55, loadA_eq ia_24, o_buildSlice es_55 ze_55 (by decide) ba_55_1, lenA_sl lk_22, sz_3, want_some q31_44g4, want_some q31_75g1, want_some q31_75g8, e0, e1, hg, g1, g2, hl, c1, c2, this]
      · rw [decide_eq_false c1] at hx
        rw [hx] at this
        simp only [Bool.true_and, Bool.false_and] at this
        rw [lpB_eq]
        simp (maxSteps := 1000000) (disch := first | omega | decide | assumption | simp [scal]) [o_indexAddrS es_22, ze_22, o_buildSlice es_22 ze_22 (by decide) ba_22_1, o_fieldAddr fa_54_1 (by decide), loadA_eq ia_5, o_convI cv_5_3, o_fieldAddr fa_54_2 (by decide), loadA_eq ia_4, o_buildSlice es_22 ze_22 (by decide) ba_22_3, o_fieldAddr fa_54_3 (by decide), loadA_eq ia_50, o_fieldAddr fa_54_0 (by decide), o_indexAddrA ea_52, o_indexAddrA ea_51, o_convI cv_50_3, za_24, sz_24, o_fieldAddr fa_24_0 (by decide), loadA_eq ia_3, o_fieldAddr fa_24_1 (by decide), o_buildSlice es_22 ze_22 (by decide) ba_22_2, lenA_sl lk_55, o_indexAddrS es_55, ze_55, o_buildSlice es_55 ze_55 (by decide) ba_55_0, o_sliceS sl_55, ap_55, builtin_append ni_55, loadA_eq ia_24, o_buildSlice es_55 ze_55 (by decide) ba_55_1, lenA_sl lk_22, sz_3, want_some q31_44g4, want_some q31_75g1, want_some q31_75g8, e0, e1, hg, g1, g2, hl, c1, this]
omit hB in
theorem rde (L : List (Int × Int)) (hL : L.length ≤ 10) : lpB Try.prog LL ⟨31, 129, 0, none⟩ n31_24 n31_25 ⟨[(1, pp 0), (2, sl 1 0 p.length p.length), (3, sl 2 0 L.length L.length), (5, iv k), (6, iv k)], [shB r0 s0 r1 s1 r2 s2 n o g, zB p, .cells (rtC L) 2 true true], []⟩ =
    some (.exit 0, ⟨[(1, pp 0), (2, sl 1 0 p.length p.length), (3, sl 2 0 L.length L.length)], [shB r0 s0 r1 s1 r2 s2 n o g, zB p, .cells (rtC L) 2 true true], []⟩) := by
  simp only [zB]
  generalize zm p = X
  generalize rtC L = Y
  rw [lpB_eq]
  simp (maxSteps := 1000000) (disch := first | omega | decide | assumption | simp [scal]) [o_indexAddrS es_22, ze_22, o_buildSlice es_22 ze_22 (by decide) ba_22_1, o_fieldAddr fa_54_1 (by decide), loadA_eq ia_5, o_convI cv_5_3, o_fieldAddr fa_54_2 (by decide), loadA_eq ia_4, o_buildSlice es_22 ze_22 (by decide) ba_22_3, o_fieldAddr fa_54_3 (by decide), loadA_eq ia_50, o_fieldAddr fa_54_0 (by decide), o_indexAddrA ea_52, o_indexAddrA ea_51, o_convI cv_50_3, za_24, sz_24, o_fieldAddr fa_24_0 (by decide), loadA_eq ia_3, o_fieldAddr fa_24_1 (by decide), o_buildSlice es_22 ze_22 (by decide) ba_22_2, lenA_sl lk_55, o_indexAddrS es_55, ze_55, o_buildSlice es_55 ze_55 (by decide) ba_55_0, o_sliceS sl_55, ap_55, builtin_append ni_55, loadA_eq ia_24, o_buildSlice es_55 ze_55 (by decide) ba_55_1, lenA_sl lk_22, sz_3, want_some q31_44g4, want_some q31_75g1, want_some q31_75g8]
end
end Go.Proofs.Ytkmompbfcgjgmaa.nt
namespace Go.Proofs.Ytkmompbfcgjgmaa.nt
open Go.GE
set_option linter.unusedVariables false
set_option linter.unusedSimpArgs false
set_option linter.unusedSectionVars false
set_option maxRecDepth 100000
set_option maxHeartbeats 4000000
def shR (r s : Int) : Int × Int := (r.tmod 4, 1 + s % 2)
def fldP : List (Int × Int) → List Int → List Int
  | [], p => p
  | r :: l, p => fldP l (mulP p (-r.1) r.2)
def fldR : List (Int × Int) → List (Int × Int) → List (Int × Int)
  | [], R => R
  | r :: l, R => fldR l (insR R r)
def shC (n : Nat) (o : Bool) : Nat := bif o then n % 2 else 1 + n % 3
def shB0 (o : Bool) (g : Int) : List Int := bif o then (bif decide (g.tmod 2 = 0) then [2, 0, 1] else [1, 1, 1]) else [1]
def negP (g : Int) (p : List Int) : List Int := bif decide (g < 0) then p.map (fun x => -x) else p
def okP (p : List Int) : Bool := p.all inC
theorem shR_ok (r s : Int) : okRt (shR r s) := by
  have := tmod_bd (a := r) 4 (by decide)
  unfold okRt shR
  simp only []
  omega
theorem okF_neg {p : List Int} : okF (fun i => -(p.getD i 0)) p.length = okP (p.map (fun x => -x)) := by
  unfold okF okP
  rw [List.all_map]
  have : p = (List.range p.length).map (fun i => p.getD i 0) := of_range.symm
  rw [Bool.eq_iff_iff, List.all_eq_true, List.all_eq_true]
  constructor
  · intro h x hx
    obtain ⟨i, hi, rfl⟩ := List.getElem_of_mem hx
    have := h i (List.mem_range.2 hi)
    simpa [hi] using this
  · intro h i hi
    have hi := List.mem_range.1 hi
    have := h p[i] (List.getElem_mem hi)
    simpa [hi] using this
theorem okF_pos {p : List Int} : okF (fun i => p.getD i 0) p.length = okP p := by
  unfold okF okP
  rw [Bool.eq_iff_iff, List.all_eq_true, List.all_eq_true]
  constructor
  · intro h x hx
    obtain ⟨i, hi, rfl⟩ := List.getElem_of_mem hx
    have := h i (List.mem_range.2 hi)
    simpa [hi] using this
  · intro h i hi
    have hi := List.mem_range.1 hi
    have := h p[i] (List.getElem_mem hi)
    simpa [hi] using this
theorem mx_neg {p : List Int} : mxL (fun i => -(p.getD i 0)) (fun i => p.getD i 0) p.length p.length = zm (p.map (fun x => -x)) := by
  rw [mxL_full]
  congr 1
  have e : p.map (fun x => -x) = ((List.range p.length).map (fun i => p.getD i 0)).map (fun x => -x) := by rw [of_range]
  rw [e, List.map_map]
  rfl
theorem mx_zm {p : List Int} {f : Nat → Int} : mxL f (fun i => p.getD i 0) p.length 0 = zm p := by rw [mxL_zero, of_range]
section
variable (r0 s0 r1 s1 r2 s2 : Int) (n : Nat) (o : Bool) (g : Int) (hg8 : I8 g)
include hg8
/-- the signs, and whether all coefficients are small -/
theorem l58 (p : List Int) (h60 : p.length ≤ 40) (hB : BdM 100000 p) (k : Nat) (R : List Value) :
    lpB Try.prog LL ⟨31, 129, 0, none⟩ n31_58 n31_59 ⟨[(1, pp 0), (2, sl 1 0 p.length p.length), (3, sl 2 0 k k), (4, .bool true), (95, iv p.length), (96, iv 0)], [shB r0 s0 r1 s1 r2 s2 n o g, zB p, .cells R 2 true true], []⟩ =
      some (.exit 4, ⟨[(2, sl 0 0 p.length p.length), (3, sl 1 0 k k), (4, .bool (okP (negP g p)))], [zB (negP g p), .cells R 2 true true], []⟩) := by
  unfold negP
  by_cases hg : g < 0
  · have := l58n r0 s0 r1 s1 r2 s2 n o g k R p h60 hB hg hg8 p.length 0 (by omega)
    rw [okF_neg, mx_neg, mx_zm] at this
    rw [decide_eq_true hg, cond_true]
    exact this
  · have := l58p r0 s0 r1 s1 r2 s2 n o g k R p h60 hB hg hg8 p.length 0 (by omega)
    rw [okF_pos] at this
    rw [decide_eq_false hg, cond_false]
    exact this
end
theorem negP_len {g : Int} {p : List Int} : (negP g p).length = p.length := by
  unfold negP
  cases decide (g < 0) <;> simp
theorem BdM_up {M N : Int} {p : List Int} (h : BdM M p) (hMN : M ≤ N) : BdM N p := fun i => by have := h i; omega
theorem B_one : BdM 2 [1] := by
  intro i
  rcases i with _ | i <;> simp
theorem B_111 : BdM 2 [1, 1, 1] := by
  intro i
  rcases i with _ | _ | _ | i <;> simp
theorem B_201 : BdM 2 [2, 0, 1] := by
  intro i
  rcases i with _ | _ | _ | i <;> simp
section
variable (r0 s0 r1 s1 r2 s2 : Int) (n : Nat) (o : Bool) (g : Int) (h8 : I8 r0 ∧ I8 s0 ∧ I8 r1 ∧ I8 s1 ∧ I8 r2 ∧ I8 s2 ∧ I8 g) (hn : n < 256)
include h8 hn
def shL (r0 s0 r1 s1 r2 s2 : Int) (n : Nat) (o : Bool) : List (Int × Int) := [shR r0 s0, shR r1 s1, shR r2 s2].take (shC n o)
def shP (r0 s0 r1 s1 r2 s2 : Int) (n : Nat) (o : Bool) (g : Int) : List Int := negP g (fldP (shL r0 s0 r1 s1 r2 s2 n o) (shB0 o g))
def shQ (r0 s0 r1 s1 r2 s2 : Int) (n : Nat) (o : Bool) : List (Int × Int) := fldR (shL r0 s0 r1 s1 r2 s2 n o) []
omit h8 hn in
theorem ins_len {R : List (Int × Int)} {r : Int × Int} : (insR R r).length = R.length + 1 := by
  induction R with
  | nil => rfl
  | cons a R ih =>
    unfold insR
    split
    · simp [ih]
    · simp
abbrev rtB (l : List (Int × Int)) : Blk := .cells (rtC l) 2 true true
/-- the rounds -/
theorem bA1 : ∃ (P : List Int) (R : List (Int × Int)), P = (mulP [1] (-(r0.tmod 4)) (1 + s0 % 2)) ∧ R = [(r0.tmod 4, 1 + s0 % 2)] ∧ P.length = 2 ∧ R.length = 1 ∧ BdM 250 P ∧
    lpB Try.prog LL ⟨31, 129, 0, none⟩ n31_24 n31_25 ⟨[(1, pp 0), (2, sl 1 0 1 1), (3, sl 2 0 0 0), (5, iv 1), (6, iv 0)], [shB r0 s0 r1 s1 r2 s2 n o g, zB [1], .cells [] 2 true true], []⟩ =
      some (.exit 0, ⟨[(1, pp 0), (2, sl 1 0 2 2), (3, sl 2 0 1 1)], [shB r0 s0 r1 s1 r2 s2 n o g, zB P, rtB R], []⟩) := by
  obtain ⟨i0, i1, i2, i3, i4, i5, i6⟩ := h8
  have b0 : BdM 2 [1] := B_one
  have sr0 := shR_ok r0 s0
  have b1 : BdM 10 (mulP [1] (-(r0.tmod 4)) (1 + s0 % 2)) := BdM_mul b0 (by omega) (by unfold okRt shR at sr0; simp only [] at sr0; omega) (by unfold okRt shR at sr0; simp only [] at sr0; omega)
  refine ⟨_, _, rfl, rfl, by simp [mulP_len], ?_, BdM_up b1 (by omega), ?_⟩
  · rfl
  · have e0 := rd0 r0 s0 r1 s1 r2 s2 n o g [1] (by simp) b0 (by omega) 1 (by omega) i0 i1
    have e := rde r0 s0 r1 s1 r2 s2 n o g 1 (mulP [1] (-(r0.tmod 4)) (1 + s0 % 2)) (by simp [mulP_len]) [(r0.tmod 4, 1 + s0 % 2)] (by simp)
    rw [show ((mulP [1] (-(r0.tmod 4)) (1 + s0 % 2))).length = 2 by simp [mulP_len]] at e
    exact e0.trans e
/-- the rounds -/
theorem bA2 : ∃ (P : List Int) (R : List (Int × Int)), P = (mulP (mulP [1] (-(r0.tmod 4)) (1 + s0 % 2)) (-(r1.tmod 4)) (1 + s1 % 2)) ∧ R = (insR [(r0.tmod 4, 1 + s0 % 2)] (r1.tmod 4, 1 + s1 % 2)) ∧ P.length = 3 ∧ R.length = 2 ∧ BdM 250 P ∧
    lpB Try.prog LL ⟨31, 129, 0, none⟩ n31_24 n31_25 ⟨[(1, pp 0), (2, sl 1 0 1 1), (3, sl 2 0 0 0), (5, iv 2), (6, iv 0)], [shB r0 s0 r1 s1 r2 s2 n o g, zB [1], .cells [] 2 true true], []⟩ =
      some (.exit 0, ⟨[(1, pp 0), (2, sl 1 0 3 3), (3, sl 2 0 2 2)], [shB r0 s0 r1 s1 r2 s2 n o g, zB P, rtB R], []⟩) := by
  obtain ⟨i0, i1, i2, i3, i4, i5, i6⟩ := h8
  have b0 : BdM 2 [1] := B_one
  have sr0 := shR_ok r0 s0
  have b1 : BdM 10 (mulP [1] (-(r0.tmod 4)) (1 + s0 % 2)) := BdM_mul b0 (by omega) (by unfold okRt shR at sr0; simp only [] at sr0; omega) (by unfold okRt shR at sr0; simp only [] at sr0; omega)
  have sr1 := shR_ok r1 s1
  have b2 : BdM 50 (mulP (mulP [1] (-(r0.tmod 4)) (1 + s0 % 2)) (-(r1.tmod 4)) (1 + s1 % 2)) := BdM_mul b1 (by omega) (by unfold okRt shR at sr1; simp only [] at sr1; omega) (by unfold okRt shR at sr1; simp only [] at sr1; omega)
  refine ⟨_, _, rfl, rfl, by simp [mulP_len], ?_, BdM_up b2 (by omega), ?_⟩
  · simp only [ins_len]; rfl
  · have e0 := rd0 r0 s0 r1 s1 r2 s2 n o g [1] (by simp) b0 (by omega) 2 (by omega) i0 i1
    have e1 := rd1 r0 s0 r1 s1 r2 s2 n o g (mulP [1] (-(r0.tmod 4)) (1 + s0 % 2)) (by simp [mulP_len]) b1 (by omega) 2 (by omega) i2 i3 (r0.tmod 4) (1 + s0 % 2) sr0
    rw [show ((mulP [1] (-(r0.tmod 4)) (1 + s0 % 2))).length = 2 by simp [mulP_len]] at e1
    have e := rde r0 s0 r1 s1 r2 s2 n o g 2 (mulP (mulP [1] (-(r0.tmod 4)) (1 + s0 % 2)) (-(r1.tmod 4)) (1 + s1 % 2)) (by simp [mulP_len]) (insR [(r0.tmod 4, 1 + s0 % 2)] (r1.tmod 4, 1 + s1 % 2)) (by simp [ins_len])
    rw [show ((mulP (mulP [1] (-(r0.tmod 4)) (1 + s0 % 2)) (-(r1.tmod 4)) (1 + s1 % 2))).length = 3 by simp [mulP_len], show ((insR [(r0.tmod 4, 1 + s0 % 2)] (r1.tmod 4, 1 + s1 % 2))).length = 2 by simp [ins_len]] at e
    exact e0.trans (e1.trans e)
/-- the rounds -/
theorem bA3 : ∃ (P : List Int) (R : List (Int × Int)), P = (mulP (mulP (mulP [1] (-(r0.tmod 4)) (1 + s0 % 2)) (-(r1.tmod 4)) (1 + s1 % 2)) (-(r2.tmod 4)) (1 + s2 % 2)) ∧ R = (insR (insR [(r0.tmod 4, 1 + s0 % 2)] (r1.tmod 4, 1 + s1 % 2)) (r2.tmod 4, 1 + s2 % 2)) ∧ P.length = 4 ∧ R.length = 3 ∧ BdM 250 P ∧
    lpB Try.prog LL ⟨31, 129, 0, none⟩ n31_24 n31_25 ⟨[(1, pp 0), (2, sl 1 0 1 1), (3, sl 2 0 0 0), (5, iv 3), (6, iv 0)], [shB r0 s0 r1 s1 r2 s2 n o g, zB [1], .cells [] 2 true true], []⟩ =
      some (.exit 0, ⟨[(1, pp 0), (2, sl 1 0 4 4), (3, sl 2 0 3 3)], [shB r0 s0 r1 s1 r2 s2 n o g, zB P, rtB R], []⟩) := by
  obtain ⟨i0, i1, i2, i3, i4, i5, i6⟩ := h8
  have b0 : BdM 2 [1] := B_one
  have sr0 := shR_ok r0 s0
  have b1 : BdM 10 (mulP [1] (-(r0.tmod 4)) (1 + s0 % 2)) := BdM_mul b0 (by omega) (by unfold okRt shR at sr0; simp only [] at sr0; omega) (by unfold okRt shR at sr0; simp only [] at sr0; omega)
  have sr1 := shR_ok r1 s1
  have b2 : BdM 50 (mulP (mulP [1] (-(r0.tmod 4)) (1 + s0 % 2)) (-(r1.tmod 4)) (1 + s1 % 2)) := BdM_mul b1 (by omega) (by unfold okRt shR at sr1; simp only [] at sr1; omega) (by unfold okRt shR at sr1; simp only [] at sr1; omega)
  have sr2 := shR_ok r2 s2
  have b3 : BdM 250 (mulP (mulP (mulP [1] (-(r0.tmod 4)) (1 + s0 % 2)) (-(r1.tmod 4)) (1 + s1 % 2)) (-(r2.tmod 4)) (1 + s2 % 2)) := BdM_mul b2 (by omega) (by unfold okRt shR at sr2; simp only [] at sr2; omega) (by unfold okRt shR at sr2; simp only [] at sr2; omega)
  refine ⟨_, _, rfl, rfl, by simp [mulP_len], ?_, BdM_up b3 (by omega), ?_⟩
  · simp only [ins_len]; rfl
  · have e0 := rd0 r0 s0 r1 s1 r2 s2 n o g [1] (by simp) b0 (by omega) 3 (by omega) i0 i1
    have e1 := rd1 r0 s0 r1 s1 r2 s2 n o g (mulP [1] (-(r0.tmod 4)) (1 + s0 % 2)) (by simp [mulP_len]) b1 (by omega) 3 (by omega) i2 i3 (r0.tmod 4) (1 + s0 % 2) sr0
    rw [show ((mulP [1] (-(r0.tmod 4)) (1 + s0 % 2))).length = 2 by simp [mulP_len]] at e1
    have e := rde r0 s0 r1 s1 r2 s2 n o g 3 (mulP (mulP (mulP [1] (-(r0.tmod 4)) (1 + s0 % 2)) (-(r1.tmod 4)) (1 + s1 % 2)) (-(r2.tmod 4)) (1 + s2 % 2)) (by simp [mulP_len]) (insR (insR [(r0.tmod 4, 1 + s0 % 2)] (r1.tmod 4, 1 + s1 % 2)) (r2.tmod 4, 1 + s2 % 2)) (by simp [ins_len])
    rw [show ((mulP (mulP (mulP [1] (-(r0.tmod 4)) (1 + s0 % 2)) (-(r1.tmod 4)) (1 + s1 % 2)) (-(r2.tmod 4)) (1 + s2 % 2))).length = 4 by simp [mulP_len], show ((insR (insR [(r0.tmod 4, 1 + s0 % 2)] (r1.tmod 4, 1 + s1 % 2)) (r2.tmod 4, 1 + s2 % 2))).length = 3 by simp [ins_len]] at e
    refine e0.trans (e1.trans (Eq.trans ?_ e))
    have hi : (insR [(r0.tmod 4, 1 + s0 % 2)] (r1.tmod 4, 1 + s1 % 2)) = [(r0.tmod 4, 1 + s0 % 2), (r1.tmod 4, 1 + s1 % 2)] ∨ (insR [(r0.tmod 4, 1 + s0 % 2)] (r1.tmod 4, 1 + s1 % 2)) = [(r1.tmod 4, 1 + s1 % 2), (r0.tmod 4, 1 + s0 % 2)] := by
      simp only [insR]
      split
      · exact .inl rfl
      · exact .inr rfl
    rcases hi with hi | hi
    · have e2 := rd2 r0 s0 r1 s1 r2 s2 n o g (mulP (mulP [1] (-(r0.tmod 4)) (1 + s0 % 2)) (-(r1.tmod 4)) (1 + s1 % 2)) (by simp [mulP_len]) b2 (by omega) 3 (by omega) i4 i5 (r0.tmod 4) (1 + s0 % 2) (r1.tmod 4) (1 + s1 % 2) sr0 sr1
      rw [show ((mulP (mulP [1] (-(r0.tmod 4)) (1 + s0 % 2)) (-(r1.tmod 4)) (1 + s1 % 2))).length = 3 by simp [mulP_len]] at e2
      rw [hi]
      exact e2
    · have e2 := rd2 r0 s0 r1 s1 r2 s2 n o g (mulP (mulP [1] (-(r0.tmod 4)) (1 + s0 % 2)) (-(r1.tmod 4)) (1 + s1 % 2)) (by simp [mulP_len]) b2 (by omega) 3 (by omega) i4 i5 (r1.tmod 4) (1 + s1 % 2) (r0.tmod 4) (1 + s0 % 2) sr1 sr0
      rw [show ((mulP (mulP [1] (-(r0.tmod 4)) (1 + s0 % 2)) (-(r1.tmod 4)) (1 + s1 % 2))).length = 3 by simp [mulP_len]] at e2
      rw [hi]
      exact e2
/-- the rounds -/
theorem bB0 : ∃ (P : List Int) (R : List (Int × Int)), P = [2, 0, 1] ∧ R = [] ∧ P.length = 3 ∧ R.length = 0 ∧ BdM 250 P ∧
    lpB Try.prog LL ⟨31, 129, 0, none⟩ n31_24 n31_25 ⟨[(1, pp 0), (2, sl 1 0 3 3), (3, sl 2 0 0 0), (5, iv 0), (6, iv 0)], [shB r0 s0 r1 s1 r2 s2 n o g, zB [2, 0, 1], .cells [] 2 true true], []⟩ =
      some (.exit 0, ⟨[(1, pp 0), (2, sl 1 0 3 3), (3, sl 2 0 0 0)], [shB r0 s0 r1 s1 r2 s2 n o g, zB P, rtB R], []⟩) := by
  obtain ⟨i0, i1, i2, i3, i4, i5, i6⟩ := h8
  have b0 : BdM 2 [2, 0, 1] := B_201
  refine ⟨_, _, rfl, rfl, by simp [mulP_len], ?_, BdM_up b0 (by omega), ?_⟩
  · rfl
  · have e := rde r0 s0 r1 s1 r2 s2 n o g 0 [2, 0, 1] (by simp) [] (by simp)
    exact e
/-- the rounds -/
theorem bB1 : ∃ (P : List Int) (R : List (Int × Int)), P = (mulP [2, 0, 1] (-(r0.tmod 4)) (1 + s0 % 2)) ∧ R = [(r0.tmod 4, 1 + s0 % 2)] ∧ P.length = 4 ∧ R.length = 1 ∧ BdM 250 P ∧
    lpB Try.prog LL ⟨31, 129, 0, none⟩ n31_24 n31_25 ⟨[(1, pp 0), (2, sl 1 0 3 3), (3, sl 2 0 0 0), (5, iv 1), (6, iv 0)], [shB r0 s0 r1 s1 r2 s2 n o g, zB [2, 0, 1], .cells [] 2 true true], []⟩ =
      some (.exit 0, ⟨[(1, pp 0), (2, sl 1 0 4 4), (3, sl 2 0 1 1)], [shB r0 s0 r1 s1 r2 s2 n o g, zB P, rtB R], []⟩) := by
  obtain ⟨i0, i1, i2, i3, i4, i5, i6⟩ := h8
  have b0 : BdM 2 [2, 0, 1] := B_201
  have sr0 := shR_ok r0 s0
  have b1 : BdM 10 (mulP [2, 0, 1] (-(r0.tmod 4)) (1 + s0 % 2)) := BdM_mul b0 (by omega) (by unfold okRt shR at sr0; simp only [] at sr0; omega) (by unfold okRt shR at sr0; simp only [] at sr0; omega)
  refine ⟨_, _, rfl, rfl, by simp [mulP_len], ?_, BdM_up b1 (by omega), ?_⟩
  · rfl
  · have e0 := rd0 r0 s0 r1 s1 r2 s2 n o g [2, 0, 1] (by simp) b0 (by omega) 1 (by omega) i0 i1
    have e := rde r0 s0 r1 s1 r2 s2 n o g 1 (mulP [2, 0, 1] (-(r0.tmod 4)) (1 + s0 % 2)) (by simp [mulP_len]) [(r0.tmod 4, 1 + s0 % 2)] (by simp)
    rw [show ((mulP [2, 0, 1] (-(r0.tmod 4)) (1 + s0 % 2))).length = 4 by simp [mulP_len]] at e
    exact e0.trans e
/-- the rounds -/
theorem bC0 : ∃ (P : List Int) (R : List (Int × Int)), P = [1, 1, 1] ∧ R = [] ∧ P.length = 3 ∧ R.length = 0 ∧ BdM 250 P ∧
    lpB Try.prog LL ⟨31, 129, 0, none⟩ n31_24 n31_25 ⟨[(1, pp 0), (2, sl 1 0 3 3), (3, sl 2 0 0 0), (5, iv 0), (6, iv 0)], [shB r0 s0 r1 s1 r2 s2 n o g, zB [1, 1, 1], .cells [] 2 true true], []⟩ =
      some (.exit 0, ⟨[(1, pp 0), (2, sl 1 0 3 3), (3, sl 2 0 0 0)], [shB r0 s0 r1 s1 r2 s2 n o g, zB P, rtB R], []⟩) := by
  obtain ⟨i0, i1, i2, i3, i4, i5, i6⟩ := h8
  have b0 : BdM 2 [1, 1, 1] := B_111
  refine ⟨_, _, rfl, rfl, by simp [mulP_len], ?_, BdM_up b0 (by omega), ?_⟩
  · rfl
  · have e := rde r0 s0 r1 s1 r2 s2 n o g 0 [1, 1, 1] (by simp) [] (by simp)
    exact e
/-- the rounds -/
theorem bC1 : ∃ (P : List Int) (R : List (Int × Int)), P = (mulP [1, 1, 1] (-(r0.tmod 4)) (1 + s0 % 2)) ∧ R = [(r0.tmod 4, 1 + s0 % 2)] ∧ P.length = 4 ∧ R.length = 1 ∧ BdM 250 P ∧
    lpB Try.prog LL ⟨31, 129, 0, none⟩ n31_24 n31_25 ⟨[(1, pp 0), (2, sl 1 0 3 3), (3, sl 2 0 0 0), (5, iv 1), (6, iv 0)], [shB r0 s0 r1 s1 r2 s2 n o g, zB [1, 1, 1], .cells [] 2 true true], []⟩ =
      some (.exit 0, ⟨[(1, pp 0), (2, sl 1 0 4 4), (3, sl 2 0 1 1)], [shB r0 s0 r1 s1 r2 s2 n o g, zB P, rtB R], []⟩) := by
  obtain ⟨i0, i1, i2, i3, i4, i5, i6⟩ := h8
  have b0 : BdM 2 [1, 1, 1] := B_111
  have sr0 := shR_ok r0 s0
  have b1 : BdM 10 (mulP [1, 1, 1] (-(r0.tmod 4)) (1 + s0 % 2)) := BdM_mul b0 (by omega) (by unfold okRt shR at sr0; simp only [] at sr0; omega) (by unfold okRt shR at sr0; simp only [] at sr0; omega)
  refine ⟨_, _, rfl, rfl, by simp [mulP_len], ?_, BdM_up b1 (by omega), ?_⟩
  · rfl
  · have e0 := rd0 r0 s0 r1 s1 r2 s2 n o g [1, 1, 1] (by simp) b0 (by omega) 1 (by omega) i0 i1
    have e := rde r0 s0 r1 s1 r2 s2 n o g 1 (mulP [1, 1, 1] (-(r0.tmod 4)) (1 + s0 % 2)) (by simp [mulP_len]) [(r0.tmod 4, 1 + s0 % 2)] (by simp)
    rw [show ((mulP [1, 1, 1] (-(r0.tmod 4)) (1 + s0 % 2))).length = 4 by simp [mulP_len]] at e
    exact e0.trans e
end
end Go.Proofs.Ytkmompbfcgjgmaa.nt
